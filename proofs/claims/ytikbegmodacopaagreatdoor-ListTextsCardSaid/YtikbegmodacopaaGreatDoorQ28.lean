/-
  Joined and packed by program.
-/
import Derived.Test.YtikbegmodacopaaGreatDoorQ06
import Derived.Lib.FrozenHead
import Derived.Lib.OthersKept
import Derived.Test.YtikbegmodacopaaGreatDoorQ27
import Derived.Test.YtikbegmodacopaaGreatDoorQ15
namespace Go.Proofs.YtikbegmodacopaaGreatDoor
open Go.RowKit Go.PlainAid Go.Shelf
set_option linter.unusedSimpArgs false
set_option linter.unusedVariables false
set_option maxRecDepth 100000
structure PO where
 c:Value
 d:Value
 z:Value
 s:Value
 t:Value
 e:Value
def prCells (p v:Value) (o:PO) (l f:Value):Array Value:=#[p,v,o.c,o.d,o.z,o.s,l,f,o.t,o.e]
def PrAt (B g:Nat) (p:Value) (o:PO) (l f:Value) (T:ByteArray) (w:World):Prop :=
 B≤g∧∃ v,w.heap[g]?=some (.cells (prCells p v o l f) 133 (0,0))∧w.ownsRowF B 5 1 v T.size (Lib.strCells T)∧v.ownBlock≠some g
def selfP (g:Nat):Value:=.pointer (some ⟨g,0,none⟩)
def PrIs (g:Nat) (p:Value):Prop:=p=.pointer none∨p=selfP g
theorem pr_lies:liesAt Tryz.prog Tryz.prog.depth 133 (10 / Tryz.prog.cellsOf 133) 0 96 1=true:=by kernel_rfl
theorem strCells_app (a b:ByteArray):Lib.strCells (a ++ b)=Lib.strCells a ++ Lib.strCells b:=by
 simp only [Lib.strCells,ByteArray.data_append,Array.toList_append,List.map_append]
def nlB:ByteArray:=⟨#[10]⟩
section
variable {B g:Nat} {p:Value} {o:PO} {l f:Value} {T:ByteArray} {w w':World}
theorem PrAt.lt (h:PrAt B g p o l f T w):g<w.heap.size:=by
 obtain ⟨_,v,hb,_⟩:=h
 exact (Array.getElem?_eq_some_iff.1 hb).1
theorem PrAt.base (h:PrAt B g p o l f T w):B≤g:=h.1
theorem PrAt.drew (h:PrAt B g p o l f T w):PrAt B g p o l f T w.drew:=h
theorem PrAt.drewN (h:PrAt B g p o l f T w) (k:Nat):PrAt B g p o l f T (w.drewN k):=h
theorem PrAt.cellsAt (h:PrAt B g p o l f T w):∃ v,∀ i,w.cell? ⟨g,i,none⟩=(prCells p v o l f)[i]?:=by
 obtain ⟨_,v,hb,_⟩:=h
 exact ⟨v,fun i=>Lib.cell_of_heap hb i⟩
theorem PrAt.cell0 (h:PrAt B g p o l f T w):w.cell? ⟨g,0,none⟩=some p:=by obtain ⟨v,hv⟩:=h.cellsAt;exact hv 0
theorem PrAt.c2 (h:PrAt B g p o l f T w):w.cell? ⟨g,2,none⟩=some o.c:=by obtain ⟨v,hv⟩:=h.cellsAt;exact hv 2
theorem PrAt.c3 (h:PrAt B g p o l f T w):w.cell? ⟨g,3,none⟩=some o.d:=by obtain ⟨v,hv⟩:=h.cellsAt;exact hv 3
theorem PrAt.c4 (h:PrAt B g p o l f T w):w.cell? ⟨g,4,none⟩=some o.z:=by obtain ⟨v,hv⟩:=h.cellsAt;exact hv 4
theorem PrAt.c6 (h:PrAt B g p o l f T w):w.cell? ⟨g,6,none⟩=some l:=by obtain ⟨v,hv⟩:=h.cellsAt;exact hv 6
theorem PrAt.c7 (h:PrAt B g p o l f T w):w.cell? ⟨g,7,none⟩=some f:=by obtain ⟨v,hv⟩:=h.cellsAt;exact hv 7
theorem PrAt.shape (h:PrAt B g p o l f T w):w.shape? g=some (133,10):=by
 obtain ⟨_,v,hb,_⟩:=h
 simp [World.shape?,hb,prCells]
theorem PrAt.frozen (h:PrAt B g p o l f T w) (i:Nat):w.frozen? ⟨g,i,none⟩=false:=by
 obtain ⟨_,v,hb,_⟩:=h
 exact Lib.frozen_of_heap hb i
theorem pr_set {v:Value} {i:Nat} (u:Value) (hB:B≤g) (hb:w.heap[g]?=some (.cells (prCells p v o l f) 133 (0,0))) (hown:w.ownsRowF B 5 1 v T.size (Lib.strCells T)) (hne:v.ownBlock≠some g) {p':Value} {l' f':Value}
  (hc:(prCells p v o l f).setIfInBounds i u=prCells p' v o l' f'):PrAt B g p' o l' f' T (w.setCell ⟨g,i,none⟩ u):=by
 refine ⟨hB,v,?_,hown.kept (row:=some g) ⟨rfl,rfl,rfl,by simp [World.setCell],fun k _ hk=>Below.heap_setCell _ _ _ _ (fun e=>hk (by simp [e]))⟩ (Or.inr hne),hne⟩
 rw [← hc]
 simp [World.setCell,Array.getElem?_modify,hb]
theorem PrAt.used (h:PrAt B g p o l f T w) (q:Value):PrAt B g q o l f T (w.setCell ⟨g,0,none⟩ q):=by
 obtain ⟨hB,v,hb,hown,hne⟩:=h
 exact pr_set q hB hb hown hne rfl
theorem PrAt.setL (h:PrAt B g p o l f T w) (q:Value):PrAt B g p o q f T (w.setCell ⟨g,6,none⟩ q):=by
 obtain ⟨hB,v,hb,hown,hne⟩:=h
 exact pr_set q hB hb hown hne rfl
theorem PrAt.setF (h:PrAt B g p o l f T w) (q:Value):PrAt B g p o l q T (w.setCell ⟨g,7,none⟩ q):=by
 obtain ⟨hB,v,hb,hown,hne⟩:=h
 exact pr_set q hB hb hown hne rfl
theorem pr_put {v v':Value} {T':ByteArray} (hB:B≤g) (hb:w.heap[g]?=some (.cells (prCells p v o l f) 133 (0,0))) (hown:w.ownsRowF B 5 1 v' T'.size (Lib.strCells T')):PrAt B g p o l f T' (w.setCell ⟨g,1,none⟩ v'):=by
 have hne:=Lib.ownBlock_neF hown hb (by decide)
 refine ⟨hB,v',?_,hown.kept (row:=some g) ⟨rfl,rfl,rfl,by simp [World.setCell],fun k _ hk=>Below.heap_setCell _ _ _ _ (fun e=>hk (by simp [e]))⟩ (Or.inr hne),hne⟩
 simp [World.setCell,Array.getElem?_modify,hb,prCells]
theorem PrAt.below (h:PrAt B g p o l f T w) (hb:Below w.heap.size w w'):PrAt B g p o l f T w':=by
 have hlt:=h.lt
 obtain ⟨hB,v,hg,hown,hne⟩:=h
 exact ⟨hB,v,(hb.block g hlt).trans hg,hown.kept (row:=none) ⟨hb.os,hb.tape,hb.output,hb.size,fun k hk _=>hb.block k hk⟩ (by cases hv:v.ownBlock <;> simp),hne⟩
theorem PrAt.alloc (h:PrAt B g p o l f T w) (x:Obj):PrAt B g p o l f T (w.alloc x):=h.below ((Below.refl _ _).alloc (Nat.le_refl _) _)
end
set_option maxHeartbeats 1000000 in
theorem pr_check (B g:Nat) (p:Value) (o:PO) (l f:Value) (T:ByteArray) (w:World) (hp:PrIs g p) (h:PrAt B g p o l f T w) :
  Calls Tryz.prog 96 #[.pointer (some ⟨g,0,none⟩)] w fun e w'=>e=.returned (.tuple #[])∧(PrAt B g (selfP g) o l f T w'∧Below B w w'∧Lib.OthersKept 5 (some g) w w'):=by
 have hcell:=h.cell0
 have hsh:=h.shape
 have hfz:=h.frozen 0
 rcases hp with rfl | rfl
 ·obtain ⟨j,hj,hjs⟩:=Option.map_eq_some_iff.1 bld_size
  have HP:=hide_ (h.used (selfP g))
  have HB:=hide_ h.base
  clear h
  go_enter Tryz.func96,Tryz.ntmps96
  go_wp2
  rw [Lib.run_to_unsafe w ⟨g,0,none⟩ Tryz.underlying94 Tryz.underlying162 hj (by rw [hjs];decide) hsh (Nat.zero_lt_succ 9)]
  simp only [Result.andThen]
  rw [Oper.upon_value]
  go_wp2
  rw [run_callFunc_extern Tryz.func129 (by kernel_rfl) (by kernel_rfl) (by kernel_rfl) (e:=Extern.AbiNoEscape.same) (by kernel_rfl)]
  rw [Lib.run_noEscape]
  simp only [Result.andThen]
  rw [Oper.upon_value]
  go_wp2
  rw [Lib.run_from_unsafe w ⟨g,0,none⟩ Tryz.underlying162 Tryz.underlying94 hj hsh pr_lies]
  simp only [Result.andThen]
  rw [Oper.upon_value]
  go_wp2
  go_end0
  exact ⟨rfl,HP.out,(Below.refl B w).setCell (p:=⟨g,0,none⟩) HB.out _,(Lib.OthersKept.refl _ _ w).setCell ⟨g,0,none⟩ rfl _⟩
 ·obtain ⟨j,hj,_⟩:=Option.map_eq_some_iff.1 bld_size
  have HP:=hide_ h
  clear h
  unfold selfP at hcell
  go_enter Tryz.func96,Tryz.ntmps96
  go_wp2
  rw [Lib.run_neq_ptr_same w _ Tryz.underlying94 hj]
  go_wp2
  go_end0
  exact ⟨rfl,HP.out,Below.refl B _,Lib.OthersKept.refl _ _ _⟩
set_option maxHeartbeats 2000000 in
theorem pr_byte (B g:Nat) (p:Value) (o:PO) (l f:Value) (T:ByteArray) (w:World) (hp:PrIs g p) (h:PrAt B g p o l f T w) (hlen:T.size+1≤140737488355328) (hBw:B≤w.heap.size) :
  Calls Tryz.prog 156 #[.pointer (some ⟨g,0,none⟩),.int .u8 10] w fun e w'=>e=.returned .nilIface∧(PrAt B g (selfP g) o l f (T ++ nlB) w'∧Below B w w'∧Lib.OthersKept 5 (some g) w w'):=by
 obtain ⟨i0,hi,hz0,hz1,hz2⟩:=info_parts bld_u8
 go_enter Tryz.func156,Tryz.ntmps156
 go_wp2_with (go_at_call 96;refine (pr_check B g p o l f T _ hp h).mono ?_)
 rintro e w1 ⟨rfl,h1,hb1,hk1⟩
 have hlt:=h1.lt
 obtain ⟨hB,v,hbk,hown,hne⟩:=h1
 have c1:w1.cell? ⟨g,1,none⟩=some v:=by rw [Lib.cell_of_heap hbk];rfl
 go_wp2_with (at_builtin;refine wpList_append_ownF _ rfl _ _ 24 rfl B 5 i0 (.int .u8 0) 1 1 Tryz.underlying24 hi hz0 hz1 hz2 rfl (by decide) _ _ _ rfl (hown.alloc _) ⟨w1.heap.size,0,none⟩ 1 1 [.int .u8 10] rfl rfl ?c1 ?c2 ?c3 ?c4 ?c5 ?_)
 case c1 =>
  intro j u hj
  match j,hj with
  | 0,hj=>simp at hj;subst hj;simp [Addr.add]
 case c2=>intro u hu;simp at hu;subst hu;rfl
 case c3=>unfold maxLen;omega
 case c4=>omega
 case c5=>have:=hb1.size;simp;omega
 intro v' w2 hown' hgrow _
 have hb2:w2.heap[g]?=some (.cells (prCells (selfP g) v o l f) 133 (0,0)):=by
  rw [hgrow.block g (by simp;omega) (fun e=>hne e.symm),Lib.alloc_old w1 _ g hlt]
  exact hbk
 have d1:w2.cell? ⟨g,1,none⟩=some v:=by rw [Lib.cell_of_heap hb2];rfl
 have f1:w2.frozen? ⟨g,1,none⟩=false:=Lib.frozen_of_heap hb2 1
 obtain ⟨gg,cap,rfl⟩:∃ gg cap,v'=.slice (some ⟨gg,0,none⟩) (T.size+1) cap:=by
  rcases hown'.2 with ⟨_,h0⟩ | ⟨gg,cap,cur,fz,hv,_⟩
  ·omega
  ·exact ⟨gg,cap,hv⟩
 have hsz:(T ++ nlB).size=T.size+1:=by simp [ByteArray.size_append,nlB];rfl
 have hcl:Lib.strCells (T ++ nlB)=Lib.strCells T ++ [.int .u8 10]:=by rw [strCells_app];rfl
 go_wp2
 go_ret
 refine ⟨rfl,?_,?_,((hk1.alloc _).grown hgrow (Lib.ownsRowF_kind (hown.alloc _))).setCell ⟨g,1,none⟩ rfl _⟩
 ·exact pr_put hB hb2 (by rw [hsz,hcl];exact hown')
 ·exact ((hb1.alloc (by have:=hb1.size;omega) _).grown hgrow (by have:=hb1.size;simp;omega) (fun k hk=>(hown.lt k hk).1)).setCell (p:=⟨g,1,none⟩) hB _
set_option maxHeartbeats 2000000 in
theorem pr_string (B g:Nat) (p:Value) (o:PO) (l f:Value) (T:ByteArray) (s:ByteArray) (w:World) (hp:PrIs g p) (h:PrAt B g p o l f T w) (hlen:T.size+s.size≤140737488355328) (hBw:B≤w.heap.size) :
  Calls Tryz.prog 57 #[.pointer (some ⟨g,0,none⟩),.string s] w fun e w'=>e=.returned (.tuple #[.int .i64 s.size,.nilIface])∧(PrAt B g (selfP g) o l f (T ++ s) w'∧Below B w w'∧Lib.OthersKept 5 (some g) w w'):=by
 obtain ⟨i0,hi,hz0,hz1,hz2⟩:=info_parts bld_u8
 go_enter Tryz.func57,Tryz.ntmps57
 go_wp2_with (go_at_call 96;refine (pr_check B g p o l f T _ hp h).mono ?_)
 rintro e w1 ⟨rfl,h1,hb1,hk1⟩
 have hlt:=h1.lt
 obtain ⟨hB,v,hbk,hown,hne⟩:=h1
 have c1:w1.cell? ⟨g,1,none⟩=some v:=by rw [Lib.cell_of_heap hbk];rfl
 go_wp2_with (at_builtin;refine Lib.wpList_append_own_stringF _ rfl _ _ 24 9 rfl B 5 i0 Tryz.underlying24 Tryz.underlying9 hi hz0 hz1 hz2 _ _ _ rfl hown s rfl ?c3 ?c4 ?c5 ?_)
 case c3=>unfold maxLen;omega
 case c4=>omega
 case c5=>have:=hb1.size;omega
 intro v' w2 hown' hgrow _
 have hb2:w2.heap[g]?=some (.cells (prCells (selfP g) v o l f) 133 (0,0)):=by
  rw [hgrow.block g hlt (fun e=>hne e.symm)]
  exact hbk
 have d1:w2.cell? ⟨g,1,none⟩=some v:=by rw [Lib.cell_of_heap hb2];rfl
 have f1:w2.frozen? ⟨g,1,none⟩=false:=Lib.frozen_of_heap hb2 1
 obtain ⟨ao,n',cap,rfl⟩:∃ ao n' cap,v'=.slice ao n' cap:=by
  rcases hown'.2 with ⟨hv,_⟩ | ⟨gg,cap,cur,fz,hv,_⟩
  ·exact ⟨_,_,_,hv⟩
  ·exact ⟨_,_,_,hv⟩
 have hsz:(T ++ s).size=T.size+s.size:=ByteArray.size_append
 go_wp2
 go_ret2
 refine ⟨rfl,?_,?_,(hk1.grown hgrow (Lib.ownsRowF_kind hown)).setCell ⟨g,1,none⟩ rfl _⟩
 ·exact pr_put hB hb2 (by rw [hsz,strCells_app];exact hown')
 ·exact (hb1.grown hgrow (by have:=hb1.size;omega) (fun k hk=>(hown.lt k hk).1)).setCell (p:=⟨g,1,none⟩) hB _
theorem pr_len (B g:Nat) (p:Value) (o:PO) (l f:Value) (T:ByteArray) (w:World) (h:PrAt B g p o l f T w) :
  Calls Tryz.prog 87 #[.pointer (some ⟨g,0,none⟩)] w fun e w'=>e=.returned (.int .i64 T.size)∧w'=w:=by
 obtain ⟨hB,v,hbk,hown,hne⟩:=h
 have c1:w.cell? ⟨g,1,none⟩=some v:=by rw [Lib.cell_of_heap hbk];rfl
 obtain ⟨ao,cap,rfl⟩:∃ ao cap,v=.slice ao T.size cap:=by
  rcases hown.2 with ⟨hv,h0⟩ | ⟨gg,cap,cur,fz,hv,_⟩
  ·exact ⟨none,0,by rw [hv,h0]⟩
  ·exact ⟨_,_,hv⟩
 obtain ⟨n,hn⟩:∃ n,n=T.size:=⟨_,rfl⟩
 rw [← hn] at c1 ⊢
 clear hbk hown hne hn
 go_enter Tryz.func87,Tryz.ntmps87
 go_wp2
 go_ret
 exact ⟨rfl,rfl⟩
set_option maxHeartbeats 2000000 in
theorem pr_text (B g:Nat) (p:Value) (o:PO) (l f:Value) (T:ByteArray) (w:World) (h:PrAt B g p o l f T w) (h0:T.size≠0) :
  Calls Tryz.prog 59 #[.pointer (some ⟨g,0,none⟩)] w fun e w'=>e=.returned (.string T)∧Below B w w':=by
 obtain ⟨hB,v,hbk,hown,hne⟩:=h
 obtain ⟨L,hL⟩:∃ L:List UInt8,L=T.data.toList:=⟨_,rfl⟩
 have hTL:T=⟨L.toArray⟩:=by rw [hL,Array.toArray_toList]
 have hlen:T.size=L.length:=by rw [hL];rfl
 have hcl:Lib.strCells T=Lib.byteCells L:=by rw [hL];rfl
 rw [hlen,hcl] at hown
 rw [hTL]
 rw [hlen] at h0
 clear hTL hcl hlen hL
 obtain ⟨gg,cap,cur,fz,rfl,hbg,hg,hfz,hnc,hcm,hcs,htake⟩:∃ gg cap cur fz,v=.slice (some ⟨gg,0,none⟩) L.length cap∧B≤gg∧w.heap[gg]?=some (.cells cur 5 fz)∧fz.2≤L.length * 1∧L.length≤cap∧cap≤maxLen∧cur.size=cap * 1∧cur.toList.take (L.length * 1)=Lib.byteCells L:=by
  rcases hown.2 with ⟨_,hz⟩ | ⟨gg,cap,cur,fz,hv,r⟩
  ·exact absurd hz h0
  ·exact ⟨gg,cap,cur,fz,hv,r⟩
 have c1:w.drew.cell? ⟨g,1,none⟩=some (.slice (some ⟨gg,0,none⟩) L.length cap):=by
  have:w.drew.heap[g]?=some (.cells (prCells p (.slice (some ⟨gg,0,none⟩) L.length cap) o l f) 133 (0,0)):=hbk
  rw [Lib.cell_of_heap this];rfl
 have hSD:(Builtin.unsafeSliceData_ #[24] 142 #[.slice (some ⟨gg,0,none⟩) L.length cap]).run Tryz.prog w.drew=.ok (.pointer (some ⟨gg,0,none⟩)) w.drew :=
  Lib.run_unsafeSliceData_row _ _ _ _ _ _ (by omega)
 have hUS:(Builtin.unsafeString_ #[142,3] 9 #[.pointer (some ⟨gg,0,none⟩),.int .i64 L.length]).run Tryz.prog w.drew=.ok (.string ⟨L.toArray⟩) (w.drew.freeze ⟨gg,0,none⟩ L.length):=by
  refine Lib.run_unsafeString_row w.drew 142 3 9 5 Tryz.underlying142 (by kernel_rfl) gg cur.size (by have hg':w.drew.heap[gg]?=some (.cells cur 5 fz):=hg;simp [World.shape?,hg']) L (by intro e;rw [e] at h0;exact h0 rfl) (by omega) (by unfold maxLen at hcm;omega) ?_
  intro j x hx
  exact hown.cells (g:=gg) rfl j (.int .u8 x.toNat) (by simp [Lib.byteCells,hx])
 have HFIN:=hide_ (Lib.below_freeze (Below.drew (Below.refl B w)) (p:=⟨gg,0,none⟩) hbg L.length)
 clear hbk hown hne hg hfz htake hcs
 go_enter Tryz.func59,Tryz.ntmps59
 go_wp2
 go_region
 all_goals
  go_wp2
  go_ret
  exact ⟨rfl,HFIN.out⟩
end Go.Proofs.YtikbegmodacopaaGreatDoor
namespace Go.Proofs.YtikbegmodacopaaGreatDoor
open Go.RowKit Go.PlainAid Go.BigFrame
set_option linter.unusedSimpArgs false
set_option linter.unusedVariables false
set_option maxRecDepth 100000
structure Out (b:Nat) (W0 W:World) (v:Value) (S:ByteArray):Prop where
 own:W.ownsRow b 5 1 v S.size (Lib.strCells S)
 bel:Below b W0 W
 hb:b≤W0.heap.size
section
variable {b:Nat} {W0 W W':World} {v v':Value} {S s:ByteArray}
theorem Out.size (h:Out b W0 W v S):b≤W.heap.size:=Nat.le_trans h.hb h.bel.size
theorem Out.slice (h:Out b W0 W v S):∃ A c,v=.slice A S.size c∧S.size≤c:=by
 obtain ⟨A,c,h1,h2,_⟩:=ownsRow_slice h.own
 exact ⟨A,c,h1,h2⟩
theorem Out.below (h:Out b W0 W v S) (hb:Below W.heap.size W W'):Out b W0 W' v S :=
 ⟨((ownsR h.own).below hb).at_ (i:=0) rfl,h.bel.trans (hb.mono h.size),h.hb⟩
theorem Out.alloc (h:Out b W0 W v S) (o:Obj):Out b W0 (W.alloc o) v S:=h.below ((Below.refl _ _).alloc (Nat.le_refl _) o)
theorem Out.app (h:Out b W0 W v S) (ho:W'.ownsRow b 5 1 v' (S.size+s.size) (Lib.strCells S ++ Lib.strCells s)) (hg:W.grownBy W' v.ownBlock):Out b W0 W' v' (S ++ s) :=
 ⟨by rw [ba_size,strCells_app];exact ho,h.bel.grown hg h.size (fun k hk=>(h.own.lt k hk).1),h.hb⟩
theorem Out.app_ (s:ByteArray) {m:Nat} (h:Out b W0 W v S) (ho:W'.ownsRow b 5 1 v' m (Lib.strCells S ++ Lib.strCells s)) (hm:m=S.size+s.size) (hg:W.grownBy W' v.ownBlock):Out b W0 W' v' (S ++ s) :=
 h.app (by rw [← hm];exact ho) hg
theorem Out.nl (h:Out b W0 W v S) (ho:W'.ownsRow b 5 1 v' (S.size+1) (Lib.strCells S ++ [.int .u8 10])) (hg:Below b W W'):Out b W0 W' v' (S ++ ⟨#[10]⟩) :=
 ⟨by rw [ba_size,strCells_app];exact ho,h.bel.trans hg,h.hb⟩
theorem Out.nil_ (W:World):Out W.heap.size W W (.slice none 0 0) e0B:=⟨World.ownsRow_nil _ _ _ _,Below.refl _ _,Nat.le_refl _⟩
end
theorem out_info:(Tryz.prog.info? 5).map (fun i=>(i.zero,i.size,i.bytes))=some (some (.int .u8 0),1,1):=by kernel_rfl
theorem str_of_out {b:Nat} {W0 W:World} {A:Option Addr} {c:Nat} {S:ByteArray} (h:Out b W0 W (.slice A S.size c) S):(convert 24 9 (.slice A S.size c)).run Tryz.prog W=.ok (.string S) W:=by
 have hr:Reads W W.heap.size 1 A S.size (u8s (numsB S)):=by
  have h1:Reads W W.heap.size 1 A S.size (Lib.strCells S):=Reads.of_own h.own
  rw [show u8s (numsB S)=Lib.strCells S from by simp [numsB,Lib.strCells,u8s]]
  exact h1
 have h2:=run_str_of_reads (P:=Tryz.prog) W W.heap.size 24 5 Tryz.underlying24 Tryz.underlying5 A S.size c (numsB S) hr 9 Tryz.underlying9
 rw [h2]
 congr 2
 unfold strOfNums numsB
 apply ByteArray.ext
 simp only [List.map_map]
 rw [show ((fun n:Int=>UInt8.ofNat n.toNat) ∘ fun b:UInt8=>(b.toNat:Int))=id from by funext b;simp,List.map_id,Array.toArray_toList]
end Go.Proofs.YtikbegmodacopaaGreatDoor
namespace Go.Proofs.YtikbegmodacopaaGreatDoor
open Go.RowKit Go.PlainAid Go.BigFrame
set_option linter.unusedSimpArgs false
set_option linter.unusedVariables false
set_option maxRecDepth 100000
theorem words_short:∀ r ∈ opRows,r.w.length≤8:=by decide
theorem opR_short (op:Int):(opR op).w.length≤8:=by
 unfold opR
 split
 ·unfold opRow
  rw [List.getD_eq_getElem?_getD]
  cases h:opRows[op.toNat]? with
  | none=>simp
  | some r=>exact words_short r (List.mem_of_getElem? h)
 ·simp
theorem insT_at {x:ObjV} {i:Nat} {op arg:Int} (h:x.code[i]?=some (op,arg)):insT x i=atL x.labels 1 i ++ (⟨#[9]⟩ ++ ⟨(opR op).w.toArray⟩ ++ (if 0<(opR op).width then ⟨#[32]⟩ ++ (if fixT x.fixes 1 i=e0B then sgnT arg else fixT x.fixes 1 i) else e0B) ++ ⟨#[10]⟩):=by
 unfold insT
 rw [h]
set_option maxHeartbeats 16000000 in
theorem codeText_any (x:ObjV) (s:ObjS) (B:Nat) (w:World) (hx:ObjOk x) (hr:ObjR w B x s) (hBw:B≤w.heap.size) (hz:(codeT x).size≤140737488351232) (hnb:x.code.length≤16384)
  (hzA:∀ i:Nat,i≤x.code.length→(atL x.labels 1 i).size≤140737488351232) (hzF:∀ i:Nat,i<x.code.length→(fixT x.fixes 1 i).size≤140737488351232) :
  Calls Tryz.prog 89 #[.agg (objV x s)] w fun e w'=>e=.returned (.string (codeT x))∧Below w.heap.size w w':=by
 obtain ⟨i0,hi0,hz0,hz1,hz2⟩:=info_parts out_info
 have HLA:=hide_ (fun W (hw:Below w.heap.size w W) (i:Nat) (hi:i≤x.code.length)=>labelsAt_any x s B 1 i W hx (hr.below (hw.mono hBw)) (Nat.le_trans hBw hw.size) (hzA i hi))
 have HFA:=hide_ (fun W (hw:Below w.heap.size w W) (i:Nat) (hi:i<x.code.length)=>fixAt_any x s B 1 i W hx (hr.below (hw.mono hBw)) (Nat.le_trans hBw hw.size) (hzF i hi))
 obtain ⟨⟨cA,cc⟩,⟨dA,dc⟩,⟨lA,lc⟩,⟨fA,fc⟩,⟨tA,tc⟩,⟨eA,ec⟩⟩:=s
 have HRC:=hide_ hr.rc
 have HRD:=hide_ hr.rd
 have HRL:=hide_ hr.rl
 have HRF:=hide_ hr.rf
 have HRT:=hide_ hr.rt
 have HRE:=hide_ hr.re
 obtain ⟨l1,l2,l3,l4,l5,l6⟩:=hx.lens
 have HX:=hide_ hx
 dsimp only [objV] at HRC HRD HRL HRF HRT HRE ⊢
 obtain ⟨n,hn⟩:∃ n,n=x.code.length:=⟨_,rfl⟩
 obtain ⟨nd,hnd⟩:∃ n,n=x.data.length:=⟨_,rfl⟩
 obtain ⟨nl,hnl⟩:∃ n,n=x.labels.length:=⟨_,rfl⟩
 obtain ⟨nf,hnf⟩:∃ n,n=x.fixes.length:=⟨_,rfl⟩
 obtain ⟨nt,hnt⟩:∃ n,n=x.targets.length:=⟨_,rfl⟩
 obtain ⟨ne,hne⟩:∃ n,n=x.entries.length:=⟨_,rfl⟩
 obtain ⟨z,hzr⟩:∃ z,z=x.zero:=⟨_,rfl⟩
 obtain ⟨sk,hsk⟩:∃ z,z=x.stack:=⟨_,rfl⟩
 rw [← hn,← hnd,← hnl,← hnf,← hnt,← hne,← hzr,← hsk]
 rw [← hn] at HRC l1
 rw [← hnd] at HRD l2
 rw [← hnl] at HRL l3
 rw [← hnf] at HRF l4
 rw [← hnt] at HRT l5
 rw [← hne] at HRE l6
 have HN:=hide_ hn.symm
 have HND:=hide_ hnd.symm
 have HNL:=hide_ hnl.symm
 have HNF:=hide_ hnf.symm
 have HNT:=hide_ hnt.symm
 have HNE:=hide_ hne.symm
 have HZ:=hide_ hzr.symm
 have HSK:=hide_ hsk.symm
 dsimp only [objV] at HLA HFA
 rw [← hn,← hnd,← hnl,← hnf,← hnt,← hne,← hzr,← hsk] at HLA HFA
 rw [← hn] at hnb
 clear hr hx hn hnd hnl hnf hnt hne hzr hsk
 obtain ⟨T,hT⟩:∃ T,T=codeT x:=⟨_,rfl⟩
 rw [← hT] at hz ⊢
 have HT:=hide_ hT.symm
 have HBW:=hide_ hBw
 have HSZ:=hide_ hz
 have HNB:=hide_ hnb
 clear hT hz hBw hzA hzF hnb
 obtain ⟨W1,hW1⟩:∃ W,W=w.alloc (.cells #[.slice cA n cc,.slice dA nd dc,.int .u32 z,.int .u32 sk,.slice lA nl lc,.slice fA nf fc,.slice tA nt tc,.slice eA ne ec] 36):=⟨_,rfl⟩
 have f0:W1.cell? ⟨w.heap.size,0,none⟩=some (.slice cA n cc):=by rw [hW1];go_simp
 have f1:W1.cell? ⟨w.heap.size,1,none⟩=some (.slice dA nd dc):=by rw [hW1];go_simp
 have f2:W1.cell? ⟨w.heap.size,2,none⟩=some (.int .u32 z):=by rw [hW1];go_simp
 have f3:W1.cell? ⟨w.heap.size,3,none⟩=some (.int .u32 sk):=by rw [hW1];go_simp
 have f4:W1.cell? ⟨w.heap.size,4,none⟩=some (.slice lA nl lc):=by rw [hW1];go_simp
 have f5:W1.cell? ⟨w.heap.size,5,none⟩=some (.slice fA nf fc):=by rw [hW1];go_simp
 have f6:W1.cell? ⟨w.heap.size,6,none⟩=some (.slice tA nt tc):=by rw [hW1];go_simp
 have f7:W1.cell? ⟨w.heap.size,7,none⟩=some (.slice eA ne ec):=by rw [hW1];go_simp
 have HB1:=hide_ (show Below w.heap.size w W1 by rw [hW1];exact (Below.refl _ _).alloc (Nat.le_refl _) _)
 have hlt0:w.heap.size<W1.heap.size:=by rw [hW1];simp
 have F0:=hide_ f0
 have F1:=hide_ f1
 have F2:=hide_ f2
 have F3:=hide_ f3
 have F4:=hide_ f4
 have F5:=hide_ f5
 have F6:=hide_ f6
 have F7:=hide_ f7
 clear f0 f1 f2 f3 f4 f5 f6 f7
 have H00:=hide_ (Out.nil_ W1)
 have HQ0:=hide_ (show e0B.size+(⟨#[99,111,100,101,10]⟩:ByteArray).size≤140737488355328 by decide)
 go_enter Tryz.func89,Tryz.ntmps89
 go_upto_region 1 with (fail)
 rw [← hW1]
 clear hW1
 go_wp2_with (at_builtin;refine Lib.wpList_append_own_string _ rfl _ _ 24 9 rfl W1.heap.size 5 i0 Tryz.underlying24 Tryz.underlying9 hi0 hz0 hz1 hz2 _ _ _ rfl H00.out.own ⟨#[99,111,100,101,10]⟩ rfl (by have:=HQ0.out;unfold maxLen;omega) (by have:=HQ0.out;omega) H00.out.size ?_)
 intro vq w0 hownq hgrowq _
 have HO0:=hide_ (H00.out.app_ ⟨#[99,111,100,101,10]⟩ hownq (by first | rfl | (simp only [ba_size];rfl) | (simp only [ba_size];omega)) hgrowq)
 obtain ⟨S0,hSq⟩:∃ q,q=e0B ++ ⟨#[99,111,100,101,10]⟩:=⟨_,rfl⟩
 rw [← hSq] at HO0
 have HS0:=hide_ hSq
 obtain ⟨A0,cA0,rfl,_⟩:=HO0.out.slice
 clear hownq hgrowq hSq
 have HST:=hide_ (show S0 ++ codeR x n 0=T by rw [← HT.out,HS0.out,nil_ba,codeT,HN.out])
 go_wp2
 go_loopw [3,4] (fun v i wr=>∃ (k:Nat) (S:ByteArray),k≤n∧i=.int .i64 k∧Hid (S ++ codeR x (n - k) k=T)∧Hid (Out W1.heap.size W1 wr v S)) (fun _ i _=>n - (intOf i).toNat)
 case atStart=>exact ⟨0,_,Nat.zero_le _,rfl,HST,HO0⟩
 case round =>
  clear HO0 HST HQ0 H00
  obtain ⟨k,S,hk,rfl,HS,HO⟩:=hrel
  obtain ⟨A,c,rfl,_⟩:=HO.out.slice
  have f0:=(HO.out.bel.cell (p:=⟨w.heap.size,0,none⟩) hlt0).trans F0.out
  have f1:=(HO.out.bel.cell (p:=⟨w.heap.size,1,none⟩) hlt0).trans F1.out
  have f2:=(HO.out.bel.cell (p:=⟨w.heap.size,2,none⟩) hlt0).trans F2.out
  have f3:=(HO.out.bel.cell (p:=⟨w.heap.size,3,none⟩) hlt0).trans F3.out
  have f4:=(HO.out.bel.cell (p:=⟨w.heap.size,4,none⟩) hlt0).trans F4.out
  have f5:=(HO.out.bel.cell (p:=⟨w.heap.size,5,none⟩) hlt0).trans F5.out
  have f6:=(HO.out.bel.cell (p:=⟨w.heap.size,6,none⟩) hlt0).trans F6.out
  have f7:=(HO.out.bel.cell (p:=⟨w.heap.size,7,none⟩) hlt0).trans F7.out
  have hltx:=Nat.lt_of_lt_of_le hlt0 HO.out.bel.size
  by_cases hlt:k<n
  ·obtain ⟨⟨op,arg⟩,ht⟩:∃ t,x.code[k]?=some t:=⟨_,List.getElem?_eq_getElem (by have:=HN.out;omega)⟩
   have hop:=HX.out.code _ (List.mem_of_getElem? ht)
   obtain ⟨⟨q0,q1⟩,a0,a1⟩:=hop
   simp only at q0 q1 a0 a1
   obtain ⟨_,ad,rfl,hbk,p0,p1⟩:=el_cells cE_len HRC.out (by omega) ht
   have X0:=hide_ (p0 _ rfl)
   have X1:=hide_ (p1 1 _ (by omega) rfl)
   dsimp only at X0 X1
   have hbw:(ad.add (k * 2)).block<w.heap.size:=by have:=HBW.out;omega
   have HI:=hide_ (fun W=>rInfo_any op q0 q1 W)
   have HSG:=hide_ (fun W=>rSigned_any arg a0 a1 W)
   have hS:=HS.out
   rw [show n - k=(n - (k+1))+1 by omega,codeR,insT_at ht] at hS
   have hsh:=opR_short op
   obtain ⟨r,hr⟩:∃ r,r=opR op:=⟨_,rfl⟩
   unfold opV at HI
   rw [← hr] at HI hS hsh
   clear hr p0 p1 ht q0 q1 a0 a1 hbk
   obtain ⟨rw_,rwid,rmost,rtk,rgv,rkd⟩:=r
   unfold opCells at HI
   simp only at HI hS hsh
   have hwz:(⟨rw_.toArray⟩:ByteArray).size≤8:=by simpa [ByteArray.size] using hsh
   obtain ⟨wd,hwd⟩:∃ d:ByteArray,d=⟨rw_.toArray⟩:=⟨_,rfl⟩
   obtain ⟨at1,hat⟩:∃ a,a=atL x.labels 1 (k:Int):=⟨_,rfl⟩
   obtain ⟨fx,hfx⟩:∃ a,a=fixT x.fixes 1 (k:Int):=⟨_,rfl⟩
   obtain ⟨sg,hsg⟩:∃ a,a=sgnT arg:=⟨_,rfl⟩
   obtain ⟨rest,hrest⟩:∃ a,a=codeR x (n - (k+1)) (k+1):=⟨_,rfl⟩
   have HLK:=hide_ (fun W hw=>HLA.out W hw k (by have:=HN.out;omega))
   have HFK:=hide_ (fun W hw=>HFA.out W hw k (by have:=HN.out;omega))
   rw [← hwd] at HI hS hwz
   rw [← hat] at HLK hS
   rw [← hfx] at HFK hS
   rw [← hsg] at HSG hS
   rw [← hrest] at hS
   have HREST:=hide_ hrest
   have HSS:=hide_ hS
   have hss:=congrArg ByteArray.size hS
   simp only [ba_size] at hss
   have hn1:(⟨#[10]⟩:ByteArray).size=1:=rfl
   have hn2:(⟨#[9]⟩:ByteArray).size=1:=rfl
   have hn3:(⟨#[32]⟩:ByteArray).size=1:=rfl
   rw [hn1,hn2] at hss
   have hTz:=HSZ.out
   have HQ1:=hide_ (show S.size+at1.size≤140737488355328 by omega)
   have HQ2:=hide_ (show (S ++ at1).size+(⟨#[9]⟩ ++ wd).size≤140737488355328 by rw [ba_size,ba_size,hn2];omega)
   have hm1:¬ 9223372036854775807<1+wd.size:=by omega
   have wk:IntKind.u32.wrap (k:Int)=(k:Int):=IntWalk.u32_in _ (by have:=HNB.out;omega)
   clear hS hss hn1 hn2 hwd hat hfx hsg hrest hsh hTz
   have x0:=((HB1.out.trans (HO.out.bel.mono HB1.out.size)).cell (p:=ad.add (k * 2)) hbw).trans X0.out
   have hbx:(ad.add (k * 2)).block<wr.heap.size:=by omega
   go_wp2_with fail
   refine (HI.out _).mono ?_
   rintro e w2 ⟨rfl,hb2⟩
   have HO2:=hide_ ((HO.out.below hb2).alloc (.cells #[.string wd,.int .i64 rwid,.int .u32 rmost,.int .i64 rtk,.int .i64 rgv,.int .u8 rkd] 114))
   clear hb2 x0 hbx
   clear f0 f1 f2 f3 f4 f5 f6 f7 hltx
   obtain ⟨w3,hw3⟩:∃ W,W=w2.alloc (.cells #[.string wd,.int .i64 rwid,.int .u32 rmost,.int .i64 rtk,.int .i64 rgv,.int .u8 rkd] 114):=⟨_,rfl⟩
   have HK3:=hide_ (show Blk w3 w2.heap.size 114 #[.string wd,.int .i64 rwid,.int .u32 rmost,.int .i64 rtk,.int .i64 rgv,.int .u8 rkd] by rw [hw3];exact Blk.new _ _ _)
   go_upto_region 7 with (fail)
   rw [← hw3] at HO2 ⊢
   clear hw3
   have f0:=(HO2.out.bel.cell (p:=⟨w.heap.size,0,none⟩) hlt0).trans F0.out
   have f1:=(HO2.out.bel.cell (p:=⟨w.heap.size,1,none⟩) hlt0).trans F1.out
   have f2:=(HO2.out.bel.cell (p:=⟨w.heap.size,2,none⟩) hlt0).trans F2.out
   have f3:=(HO2.out.bel.cell (p:=⟨w.heap.size,3,none⟩) hlt0).trans F3.out
   have f4:=(HO2.out.bel.cell (p:=⟨w.heap.size,4,none⟩) hlt0).trans F4.out
   have f5:=(HO2.out.bel.cell (p:=⟨w.heap.size,5,none⟩) hlt0).trans F5.out
   have f6:=(HO2.out.bel.cell (p:=⟨w.heap.size,6,none⟩) hlt0).trans F6.out
   have f7:=(HO2.out.bel.cell (p:=⟨w.heap.size,7,none⟩) hlt0).trans F7.out
   have hltx:=Nat.lt_of_lt_of_le hlt0 HO2.out.bel.size
   go_wp2_with fail
   refine (HLK.out _ (HB1.out.trans (HO2.out.bel.mono HB1.out.size))).mono ?_
   rintro e w4 ⟨rfl,hb4⟩
   have HO4:=hide_ (HO2.out.below hb4)
   have HK4:=hide_ (HK3.out.below hb4 HK3.out.lt)
   clear hb4
   clear f0 f1 f2 f3 f4 f5 f6 f7 hltx
   go_wp2_with (at_builtin;refine Lib.wpList_append_own_string _ rfl _ _ 24 9 rfl W1.heap.size 5 i0 Tryz.underlying24 Tryz.underlying9 hi0 hz0 hz1 hz2 _ _ _ rfl HO4.out.own at1 rfl (by have:=HQ1.out;unfold maxLen;omega) (by have:=HQ1.out;omega) HO4.out.size ?_)
   intro vq w5 hownq hgrowq _
   have HO5:=hide_ (HO4.out.app_ at1 hownq (by first | rfl | (simp only [ba_size];rfl) | (simp only [ba_size];omega)) hgrowq)
   have HK5:=hide_ (HK4.out.grown hgrowq (fun e=>own_blk_ne HO4.out.own HK4.out (by decide) e.symm))
   obtain ⟨S5,hSq⟩:∃ q,q=S ++ at1:=⟨_,rfl⟩
   rw [← hSq] at HO5
   have HS5:=hide_ hSq
   obtain ⟨A5,cA5,rfl,_⟩:=HO5.out.slice
   clear hownq hgrowq hSq
   have HQ2:=hide_ (show S5.size+(⟨#[9]⟩ ++ wd).size≤140737488355328 by rw [HS5.out];exact HQ2.out)
   have c0:=HK5.out.cell 0
   have hlk:=HK5.out.lt
   simp only [List.getElem?_toArray,List.getElem?_cons_zero] at c0
   go_wp2_with (at_builtin;refine Lib.wpList_append_own_string _ rfl _ _ 24 9 rfl W1.heap.size 5 i0 Tryz.underlying24 Tryz.underlying9 hi0 hz0 hz1 hz2 _ _ _ rfl HO5.out.own (⟨#[9]⟩ ++ wd) rfl (by have:=HQ2.out;unfold maxLen;omega) (by have:=HQ2.out;omega) HO5.out.size ?_)
   intro vq w6 hownq hgrowq _
   have HO6:=hide_ (HO5.out.app_ (⟨#[9]⟩ ++ wd) hownq (by first | rfl | (simp only [ba_size];rfl) | (simp only [ba_size];omega)) hgrowq)
   have HK6:=hide_ (HK5.out.grown hgrowq (fun e=>own_blk_ne HO5.out.own HK5.out (by decide) e.symm))
   obtain ⟨S6,hSq⟩:∃ q,q=S5 ++ (⟨#[9]⟩ ++ wd):=⟨_,rfl⟩
   rw [← hSq] at HO6
   have HS6:=hide_ hSq
   obtain ⟨A6,cA6,rfl,_⟩:=HO6.out.slice
   clear hownq hgrowq hSq
   clear c0 hlk
   have c1:w6.cell? ⟨w2.heap.size,1,none⟩=some (.int .i64 rwid):=HK6.out.cell 1
   have hlk:=HK6.out.lt
   by_cases hw:0<rwid
   ·have hwi:(0:Int)<(rwid:Int):=by omega
    have HSW:=hide_ (show S ++ ((at1 ++ (⟨#[9]⟩ ++ wd ++ (⟨#[32]⟩ ++ (if fx=e0B then sg else fx)) ++ ⟨#[10]⟩)) ++ rest)=T by
     have h:=HSS.out
     rw [if_pos hw] at h
     exact h)
    clear hw
    have f0:=(HO6.out.bel.cell (p:=⟨w.heap.size,0,none⟩) hlt0).trans F0.out
    have f1:=(HO6.out.bel.cell (p:=⟨w.heap.size,1,none⟩) hlt0).trans F1.out
    have f2:=(HO6.out.bel.cell (p:=⟨w.heap.size,2,none⟩) hlt0).trans F2.out
    have f3:=(HO6.out.bel.cell (p:=⟨w.heap.size,3,none⟩) hlt0).trans F3.out
    have f4:=(HO6.out.bel.cell (p:=⟨w.heap.size,4,none⟩) hlt0).trans F4.out
    have f5:=(HO6.out.bel.cell (p:=⟨w.heap.size,5,none⟩) hlt0).trans F5.out
    have f6:=(HO6.out.bel.cell (p:=⟨w.heap.size,6,none⟩) hlt0).trans F6.out
    have f7:=(HO6.out.bel.cell (p:=⟨w.heap.size,7,none⟩) hlt0).trans F7.out
    have hltx:=Nat.lt_of_lt_of_le hlt0 HO6.out.bel.size
    go_wp2_with fail
    refine (HFK.out _ (HB1.out.trans (HO6.out.bel.mono HB1.out.size))).mono ?_
    rintro e w7 ⟨rfl,hb7⟩
    have HO7:=hide_ (HO6.out.below hb7)
    clear hb7 c1 hlk HK6
    clear f0 f1 f2 f3 f4 f5 f6 f7 hltx
    by_cases hfe:fx=e0B
    ·have hq:(fx.toList == ([]:List UInt8))=true:=by rw [str_empty,decide_eq_true hfe]
     have HSF:=hide_ (show S ++ ((at1 ++ (⟨#[9]⟩ ++ wd ++ (⟨#[32]⟩ ++ sg) ++ ⟨#[10]⟩)) ++ rest)=T by
      have h:=HSW.out
      rw [if_pos hfe] at h
      exact h)
     have hss:=congrArg ByteArray.size HSF.out
     simp only [ba_size] at hss
     have hz6:S6.size=S.size+at1.size+((⟨#[9]⟩:ByteArray).size+wd.size):=by rw [HS6.out,HS5.out];simp only [ba_size]
     have hTz:=HSZ.out
     have HQ3:=hide_ (show S6.size+(⟨#[32]⟩ ++ sg).size≤140737488355328 by rw [ba_size];omega)
     have HQ4:=hide_ (show S6.size+(⟨#[32]⟩ ++ sg).size+1≤140737488355328 by rw [ba_size];have:(⟨#[10]⟩:ByteArray).size=1:=rfl;omega)
     have hm3:¬ 9223372036854775807<1+sg.size:=by have:(⟨#[32]⟩:ByteArray).size=1:=rfl;omega
     clear hss hz6 hTz hfe
     have f0:=(HO7.out.bel.cell (p:=⟨w.heap.size,0,none⟩) hlt0).trans F0.out
     have f1:=(HO7.out.bel.cell (p:=⟨w.heap.size,1,none⟩) hlt0).trans F1.out
     have f2:=(HO7.out.bel.cell (p:=⟨w.heap.size,2,none⟩) hlt0).trans F2.out
     have f3:=(HO7.out.bel.cell (p:=⟨w.heap.size,3,none⟩) hlt0).trans F3.out
     have f4:=(HO7.out.bel.cell (p:=⟨w.heap.size,4,none⟩) hlt0).trans F4.out
     have f5:=(HO7.out.bel.cell (p:=⟨w.heap.size,5,none⟩) hlt0).trans F5.out
     have f6:=(HO7.out.bel.cell (p:=⟨w.heap.size,6,none⟩) hlt0).trans F6.out
     have f7:=(HO7.out.bel.cell (p:=⟨w.heap.size,7,none⟩) hlt0).trans F7.out
     have hltx:=Nat.lt_of_lt_of_le hlt0 HO7.out.bel.size
     have x1:=((HB1.out.trans (HO7.out.bel.mono HB1.out.size)).cell (p:=⟨(ad.add (k * 2)).block,(ad.add (k * 2)).off+1,none⟩) hbw).trans X1.out
     have hbx:(ad.add (k * 2)).block<w7.heap.size:=by omega
     go_wp2_with fail
     refine (HSG.out _).mono ?_
     rintro e w8 ⟨rfl,hb8⟩
     have HO8:=hide_ (HO7.out.below hb8)
     clear hb8 x1 hbx hq
     clear f0 f1 f2 f3 f4 f5 f6 f7 hltx
     go_wp2_with (at_builtin;refine Lib.wpList_append_own_string _ rfl _ _ 24 9 rfl W1.heap.size 5 i0 Tryz.underlying24 Tryz.underlying9 hi0 hz0 hz1 hz2 _ _ _ rfl HO8.out.own (⟨#[32]⟩ ++ sg) rfl (by have:=HQ3.out;unfold maxLen;omega) (by have:=HQ3.out;omega) HO8.out.size ?_)
     intro vq w9 hownq hgrowq _
     have HO9:=hide_ (HO8.out.app_ (⟨#[32]⟩ ++ sg) hownq (by first | rfl | (simp only [ba_size];rfl) | (simp only [ba_size];omega)) hgrowq)
     obtain ⟨S9,hSq⟩:∃ q,q=S6 ++ (⟨#[32]⟩ ++ sg):=⟨_,rfl⟩
     rw [← hSq] at HO9
     have HS9:=hide_ hSq
     obtain ⟨A9,cA9,rfl,_⟩:=HO9.out.slice
     clear hownq hgrowq hSq
     have HQ5:=hide_ (show S9.size+1≤140737488355328 by rw [HS9.out,ba_size];exact HQ4.out)
     go_wp2_with (at_builtin;refine wpList_append_owns _ rfl _ _ 24 rfl W1.heap.size _ 0 5 1 _ _ _ rfl (ownsR (HO9.out.alloc _).own) (HO9.out.alloc _).size i0 _ 1 Tryz.underlying24 hi0 hz0 hz1 hz2 rfl (by omega) rfl _ _ 1 1 [.int .u8 10] rfl (reads_new w9 5 1 1 [.int .u8 10] rfl) (by simp [Value.oneCell']) (by have:=HQ5.out;simp only [maxLen];omega) (by have:=HQ5.out;omega) ?_)
     intro vq w10 hownq hbq _
     have HO10:=hide_ ((HO9.out.alloc _).nl (hownq.at_ (i:=0) rfl) hbq)
     obtain ⟨S10,hSq⟩:∃ q,q=S9 ++ ⟨#[10]⟩:=⟨_,rfl⟩
     rw [← hSq] at HO10
     have HS10:=hide_ hSq
     obtain ⟨A10,cA10,rfl,_⟩:=HO10.out.slice
     clear hownq hbq hSq
     have HSE:=hide_ (show S10 ++ codeR x (n - (k+1)) (k+1)=T by
      rw [← HSF.out,HS10.out,HS9.out,HS6.out,HS5.out,← HREST.out]
      simp only [ba_assoc])
     go_wp2
     go_roundw
     case rel=>exact ⟨k+1,S10,by omega,by go_num,HSE,HO10⟩
     case measure=>simp [intOf];omega
    ·have hq:(fx.toList == ([]:List UInt8))=false:=by rw [str_empty,decide_eq_false hfe]
     have HSF:=hide_ (show S ++ ((at1 ++ (⟨#[9]⟩ ++ wd ++ (⟨#[32]⟩ ++ fx) ++ ⟨#[10]⟩)) ++ rest)=T by
      have h:=HSW.out
      rw [if_neg hfe] at h
      exact h)
     have hss:=congrArg ByteArray.size HSF.out
     simp only [ba_size] at hss
     have hz6:S6.size=S.size+at1.size+((⟨#[9]⟩:ByteArray).size+wd.size):=by rw [HS6.out,HS5.out];simp only [ba_size]
     have hTz:=HSZ.out
     have HQ3:=hide_ (show S6.size+(⟨#[32]⟩ ++ fx).size≤140737488355328 by rw [ba_size];omega)
     have HQ4:=hide_ (show S6.size+(⟨#[32]⟩ ++ fx).size+1≤140737488355328 by rw [ba_size];have:(⟨#[10]⟩:ByteArray).size=1:=rfl;omega)
     have hm3:¬ 9223372036854775807<1+fx.size:=by have:(⟨#[32]⟩:ByteArray).size=1:=rfl;omega
     clear hss hz6 hTz hfe
     go_wp2_with (at_builtin;refine Lib.wpList_append_own_string _ rfl _ _ 24 9 rfl W1.heap.size 5 i0 Tryz.underlying24 Tryz.underlying9 hi0 hz0 hz1 hz2 _ _ _ rfl HO7.out.own (⟨#[32]⟩ ++ fx) rfl (by have:=HQ3.out;unfold maxLen;omega) (by have:=HQ3.out;omega) HO7.out.size ?_)
     intro vq w9 hownq hgrowq _
     have HO9:=hide_ (HO7.out.app_ (⟨#[32]⟩ ++ fx) hownq (by first | rfl | (simp only [ba_size];rfl) | (simp only [ba_size];omega)) hgrowq)
     obtain ⟨S9,hSq⟩:∃ q,q=S6 ++ (⟨#[32]⟩ ++ fx):=⟨_,rfl⟩
     rw [← hSq] at HO9
     have HS9:=hide_ hSq
     obtain ⟨A9,cA9,rfl,_⟩:=HO9.out.slice
     clear hownq hgrowq hSq
     have HQ5:=hide_ (show S9.size+1≤140737488355328 by rw [HS9.out,ba_size];exact HQ4.out)
     clear hq
     go_wp2_with (at_builtin;refine wpList_append_owns _ rfl _ _ 24 rfl W1.heap.size _ 0 5 1 _ _ _ rfl (ownsR (HO9.out.alloc _).own) (HO9.out.alloc _).size i0 _ 1 Tryz.underlying24 hi0 hz0 hz1 hz2 rfl (by omega) rfl _ _ 1 1 [.int .u8 10] rfl (reads_new w9 5 1 1 [.int .u8 10] rfl) (by simp [Value.oneCell']) (by have:=HQ5.out;simp only [maxLen];omega) (by have:=HQ5.out;omega) ?_)
     intro vq w10 hownq hbq _
     have HO10:=hide_ ((HO9.out.alloc _).nl (hownq.at_ (i:=0) rfl) hbq)
     obtain ⟨S10,hSq⟩:∃ q,q=S9 ++ ⟨#[10]⟩:=⟨_,rfl⟩
     rw [← hSq] at HO10
     have HS10:=hide_ hSq
     obtain ⟨A10,cA10,rfl,_⟩:=HO10.out.slice
     clear hownq hbq hSq
     have HSE:=hide_ (show S10 ++ codeR x (n - (k+1)) (k+1)=T by
      rw [← HSF.out,HS10.out,HS9.out,HS6.out,HS5.out,← HREST.out]
      simp only [ba_assoc])
     go_wp2
     go_roundw
     case rel=>exact ⟨k+1,S10,by omega,by go_num,HSE,HO10⟩
     case measure=>simp [intOf];omega
   ·have hwi:¬ (0:Int)<(rwid:Int):=by omega
    have HSF:=hide_ (show S ++ ((at1 ++ (⟨#[9]⟩ ++ wd ++ e0B ++ ⟨#[10]⟩)) ++ rest)=T by
     have h:=HSS.out
     rw [if_neg hw] at h
     exact h)
    have hss:=congrArg ByteArray.size HSF.out
    simp only [ba_size] at hss
    have hz6:S6.size=S.size+at1.size+((⟨#[9]⟩:ByteArray).size+wd.size):=by rw [HS6.out,HS5.out];simp only [ba_size]
    have hTz:=HSZ.out
    have HQ5:=hide_ (show S6.size+1≤140737488355328 by have:(⟨#[10]⟩:ByteArray).size=1:=rfl;omega)
    clear hss hz6 hTz hw
    go_wp2_with (at_builtin;refine wpList_append_owns _ rfl _ _ 24 rfl W1.heap.size _ 0 5 1 _ _ _ rfl (ownsR (HO6.out.alloc _).own) (HO6.out.alloc _).size i0 _ 1 Tryz.underlying24 hi0 hz0 hz1 hz2 rfl (by omega) rfl _ _ 1 1 [.int .u8 10] rfl (reads_new w6 5 1 1 [.int .u8 10] rfl) (by simp [Value.oneCell']) (by have:=HQ5.out;simp only [maxLen];omega) (by have:=HQ5.out;omega) ?_)
    intro vq w10 hownq hbq _
    have HO10:=hide_ ((HO6.out.alloc _).nl (hownq.at_ (i:=0) rfl) hbq)
    obtain ⟨S10,hSq⟩:∃ q,q=S6 ++ ⟨#[10]⟩:=⟨_,rfl⟩
    rw [← hSq] at HO10
    have HS10:=hide_ hSq
    obtain ⟨A10,cA10,rfl,_⟩:=HO10.out.slice
    clear hownq hbq hSq
    have HSE:=hide_ (show S10 ++ codeR x (n - (k+1)) (k+1)=T by
     rw [← HSF.out,HS10.out,HS6.out,HS5.out,← HREST.out,ba_nil]
     simp only [ba_assoc])
    clear c1 hlk
    go_wp2
    go_roundw
    case rel=>exact ⟨k+1,S10,by omega,by go_num,HSE,HO10⟩
    case measure=>simp [intOf];omega
  ·obtain rfl:k=n:=by omega
   obtain ⟨at1,hat⟩:∃ a,a=atL x.labels 1 (k:Int):=⟨_,rfl⟩
   have HLK:=hide_ (fun W hw=>HLA.out W hw k (by have:=HN.out;omega))
   rw [← hat] at HLK
   have HSF:=hide_ (show S ++ at1=T by
    have h:=HS.out
    rw [Nat.sub_self,codeR,← hat] at h
    exact h)
   have hss:=congrArg ByteArray.size HSF.out
   rw [ba_size] at hss
   have HQ1:=hide_ (show S.size+at1.size≤140737488355328 by have:=HSZ.out;omega)
   have wk:IntKind.u32.wrap (k:Int)=(k:Int):=IntWalk.u32_in _ (by have:=HNB.out;omega)
   clear hat hss
   go_wp2_with fail
   refine (HLK.out _ (HB1.out.trans (HO.out.bel.mono HB1.out.size))).mono ?_
   rintro e w4 ⟨rfl,hb4⟩
   have HO4:=hide_ (HO.out.below hb4)
   clear hb4
   clear f0 f1 f2 f3 f4 f5 f6 f7 hltx
   go_wp2_with (at_builtin;refine Lib.wpList_append_own_string _ rfl _ _ 24 9 rfl W1.heap.size 5 i0 Tryz.underlying24 Tryz.underlying9 hi0 hz0 hz1 hz2 _ _ _ rfl HO4.out.own at1 rfl (by have:=HQ1.out;unfold maxLen;omega) (by have:=HQ1.out;omega) HO4.out.size ?_)
   intro vq w5 hownq hgrowq _
   have HO5:=hide_ (HO4.out.app_ at1 hownq (by first | rfl | (simp only [ba_size];rfl) | (simp only [ba_size];omega)) hgrowq)
   obtain ⟨S5,hSq⟩:∃ q,q=S ++ at1:=⟨_,rfl⟩
   rw [← hSq] at HO5
   have HS5:=hide_ hSq
   obtain ⟨A5,cA5,rfl,_⟩:=HO5.out.slice
   clear hownq hgrowq hSq
   have hcv:=str_of_out HO5.out
   go_wp2
   go_ret
   exact ⟨by rw [← HSF.out,← HS5.out];rfl,HB1.out.trans (HO5.out.bel.mono HB1.out.size)⟩
end Go.Proofs.YtikbegmodacopaaGreatDoor
