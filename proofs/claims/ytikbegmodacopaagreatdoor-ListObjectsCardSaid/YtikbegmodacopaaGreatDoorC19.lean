/-
  Joined and packed by program.
-/
import Derived.Test.YtikbegmodacopaaGreatDoorC03
import Derived.Lib.FrozenHead
import Derived.Lib.OthersKept
import Derived.Test.YtikbegmodacopaaGreatDoorC18
import Derived.Test.YtikbegmodacopaaGreatDoorC09
import Derived.Deep.CutRange
import Derived.Test.YtikbegmodacopaaGreatDoorC17
import Derived.Lib.QuietBelow
import Derived.Laws.IdiomStrings
import Derived.Deep.RegionHeld3
import Derived.Test.YtikbegmodacopaaGreatDoorC16
namespace Go.Proofs.YtikbegmodacopaaGreatDoor
open Go.RowKit Go.PlainAid Go.Shelf
set_option linter.unusedSimpArgs false
set_option linter.unusedVariables false
set_option maxRecDepth 100000
structure PO where
 c:Value
 d:Value
 z:Value
 s:Value
 t:Value
 e:Value
def prCells (p v:Value) (o:PO) (l f:Value):Array Value:=#[p,v,o.c,o.d,o.z,o.s,l,f,o.t,o.e]
def PrAt (B g:Nat) (p:Value) (o:PO) (l f:Value) (T:ByteArray) (w:World):Prop :=
 B≤g∧∃ v,w.heap[g]?=some (.cells (prCells p v o l f) 133 (0,0))∧w.ownsRowF B 5 1 v T.size (Lib.strCells T)∧v.ownBlock≠some g
def selfP (g:Nat):Value:=.pointer (some ⟨g,0,none⟩)
def PrIs (g:Nat) (p:Value):Prop:=p=.pointer none∨p=selfP g
theorem pr_lies:liesAt Tryz.prog Tryz.prog.depth 133 (10 / Tryz.prog.cellsOf 133) 0 96 1=true:=by kernel_rfl
theorem strCells_app (a b:ByteArray):Lib.strCells (a ++ b)=Lib.strCells a ++ Lib.strCells b:=by
 simp only [Lib.strCells,ByteArray.data_append,Array.toList_append,List.map_append]
def nlB:ByteArray:=⟨#[10]⟩
section
variable {B g:Nat} {p:Value} {o:PO} {l f:Value} {T:ByteArray} {w w':World}
theorem PrAt.lt (h:PrAt B g p o l f T w):g<w.heap.size:=by
 obtain ⟨_,v,hb,_⟩:=h
 exact (Array.getElem?_eq_some_iff.1 hb).1
theorem PrAt.base (h:PrAt B g p o l f T w):B≤g:=h.1
theorem PrAt.drew (h:PrAt B g p o l f T w):PrAt B g p o l f T w.drew:=h
theorem PrAt.drewN (h:PrAt B g p o l f T w) (k:Nat):PrAt B g p o l f T (w.drewN k):=h
theorem PrAt.cellsAt (h:PrAt B g p o l f T w):∃ v,∀ i,w.cell? ⟨g,i,none⟩=(prCells p v o l f)[i]?:=by
 obtain ⟨_,v,hb,_⟩:=h
 exact ⟨v,fun i=>Lib.cell_of_heap hb i⟩
theorem PrAt.cell0 (h:PrAt B g p o l f T w):w.cell? ⟨g,0,none⟩=some p:=by obtain ⟨v,hv⟩:=h.cellsAt;exact hv 0
theorem PrAt.c2 (h:PrAt B g p o l f T w):w.cell? ⟨g,2,none⟩=some o.c:=by obtain ⟨v,hv⟩:=h.cellsAt;exact hv 2
theorem PrAt.c3 (h:PrAt B g p o l f T w):w.cell? ⟨g,3,none⟩=some o.d:=by obtain ⟨v,hv⟩:=h.cellsAt;exact hv 3
theorem PrAt.c4 (h:PrAt B g p o l f T w):w.cell? ⟨g,4,none⟩=some o.z:=by obtain ⟨v,hv⟩:=h.cellsAt;exact hv 4
theorem PrAt.c6 (h:PrAt B g p o l f T w):w.cell? ⟨g,6,none⟩=some l:=by obtain ⟨v,hv⟩:=h.cellsAt;exact hv 6
theorem PrAt.c7 (h:PrAt B g p o l f T w):w.cell? ⟨g,7,none⟩=some f:=by obtain ⟨v,hv⟩:=h.cellsAt;exact hv 7
theorem PrAt.shape (h:PrAt B g p o l f T w):w.shape? g=some (133,10):=by
 obtain ⟨_,v,hb,_⟩:=h
 simp [World.shape?,hb,prCells]
theorem PrAt.frozen (h:PrAt B g p o l f T w) (i:Nat):w.frozen? ⟨g,i,none⟩=false:=by
 obtain ⟨_,v,hb,_⟩:=h
 exact Lib.frozen_of_heap hb i
theorem pr_set {v:Value} {i:Nat} (u:Value) (hB:B≤g) (hb:w.heap[g]?=some (.cells (prCells p v o l f) 133 (0,0))) (hown:w.ownsRowF B 5 1 v T.size (Lib.strCells T)) (hne:v.ownBlock≠some g) {p':Value} {l' f':Value}
  (hc:(prCells p v o l f).setIfInBounds i u=prCells p' v o l' f'):PrAt B g p' o l' f' T (w.setCell ⟨g,i,none⟩ u):=by
 refine ⟨hB,v,?_,hown.kept (row:=some g) ⟨rfl,rfl,rfl,by simp [World.setCell],fun k _ hk=>Below.heap_setCell _ _ _ _ (fun e=>hk (by simp [e]))⟩ (Or.inr hne),hne⟩
 rw [← hc]
 simp [World.setCell,Array.getElem?_modify,hb]
theorem PrAt.used (h:PrAt B g p o l f T w) (q:Value):PrAt B g q o l f T (w.setCell ⟨g,0,none⟩ q):=by
 obtain ⟨hB,v,hb,hown,hne⟩:=h
 exact pr_set q hB hb hown hne rfl
theorem PrAt.setL (h:PrAt B g p o l f T w) (q:Value):PrAt B g p o q f T (w.setCell ⟨g,6,none⟩ q):=by
 obtain ⟨hB,v,hb,hown,hne⟩:=h
 exact pr_set q hB hb hown hne rfl
theorem PrAt.setF (h:PrAt B g p o l f T w) (q:Value):PrAt B g p o l q T (w.setCell ⟨g,7,none⟩ q):=by
 obtain ⟨hB,v,hb,hown,hne⟩:=h
 exact pr_set q hB hb hown hne rfl
theorem pr_put {v v':Value} {T':ByteArray} (hB:B≤g) (hb:w.heap[g]?=some (.cells (prCells p v o l f) 133 (0,0))) (hown:w.ownsRowF B 5 1 v' T'.size (Lib.strCells T')):PrAt B g p o l f T' (w.setCell ⟨g,1,none⟩ v'):=by
 have hne:=Lib.ownBlock_neF hown hb (by decide)
 refine ⟨hB,v',?_,hown.kept (row:=some g) ⟨rfl,rfl,rfl,by simp [World.setCell],fun k _ hk=>Below.heap_setCell _ _ _ _ (fun e=>hk (by simp [e]))⟩ (Or.inr hne),hne⟩
 simp [World.setCell,Array.getElem?_modify,hb,prCells]
theorem PrAt.below (h:PrAt B g p o l f T w) (hb:Below w.heap.size w w'):PrAt B g p o l f T w':=by
 have hlt:=h.lt
 obtain ⟨hB,v,hg,hown,hne⟩:=h
 exact ⟨hB,v,(hb.block g hlt).trans hg,hown.kept (row:=none) ⟨hb.os,hb.tape,hb.output,hb.size,fun k hk _=>hb.block k hk⟩ (by cases hv:v.ownBlock <;> simp),hne⟩
theorem PrAt.alloc (h:PrAt B g p o l f T w) (x:Obj):PrAt B g p o l f T (w.alloc x):=h.below ((Below.refl _ _).alloc (Nat.le_refl _) _)
end
set_option maxHeartbeats 1000000 in
theorem pr_check (B g:Nat) (p:Value) (o:PO) (l f:Value) (T:ByteArray) (w:World) (hp:PrIs g p) (h:PrAt B g p o l f T w) :
  Calls Tryz.prog 96 #[.pointer (some ⟨g,0,none⟩)] w fun e w'=>e=.returned (.tuple #[])∧(PrAt B g (selfP g) o l f T w'∧Below B w w'∧Lib.OthersKept 5 (some g) w w'):=by
 have hcell:=h.cell0
 have hsh:=h.shape
 have hfz:=h.frozen 0
 rcases hp with rfl | rfl
 ·obtain ⟨j,hj,hjs⟩:=Option.map_eq_some_iff.1 bld_size
  have HP:=hide_ (h.used (selfP g))
  have HB:=hide_ h.base
  clear h
  go_enter Tryz.func96,Tryz.ntmps96
  go_wp2
  rw [Lib.run_to_unsafe w ⟨g,0,none⟩ Tryz.underlying94 Tryz.underlying162 hj (by rw [hjs];decide) hsh (Nat.zero_lt_succ 9)]
  simp only [Result.andThen]
  rw [Oper.upon_value]
  go_wp2
  rw [run_callFunc_extern Tryz.func129 (by kernel_rfl) (by kernel_rfl) (by kernel_rfl) (e:=Extern.AbiNoEscape.same) (by kernel_rfl)]
  rw [Lib.run_noEscape]
  simp only [Result.andThen]
  rw [Oper.upon_value]
  go_wp2
  rw [Lib.run_from_unsafe w ⟨g,0,none⟩ Tryz.underlying162 Tryz.underlying94 hj hsh pr_lies]
  simp only [Result.andThen]
  rw [Oper.upon_value]
  go_wp2
  go_end0
  exact ⟨rfl,HP.out,(Below.refl B w).setCell (p:=⟨g,0,none⟩) HB.out _,(Lib.OthersKept.refl _ _ w).setCell ⟨g,0,none⟩ rfl _⟩
 ·obtain ⟨j,hj,_⟩:=Option.map_eq_some_iff.1 bld_size
  have HP:=hide_ h
  clear h
  unfold selfP at hcell
  go_enter Tryz.func96,Tryz.ntmps96
  go_wp2
  rw [Lib.run_neq_ptr_same w _ Tryz.underlying94 hj]
  go_wp2
  go_end0
  exact ⟨rfl,HP.out,Below.refl B _,Lib.OthersKept.refl _ _ _⟩
set_option maxHeartbeats 2000000 in
theorem pr_byte (B g:Nat) (p:Value) (o:PO) (l f:Value) (T:ByteArray) (w:World) (hp:PrIs g p) (h:PrAt B g p o l f T w) (hlen:T.size+1≤140737488355328) (hBw:B≤w.heap.size) :
  Calls Tryz.prog 156 #[.pointer (some ⟨g,0,none⟩),.int .u8 10] w fun e w'=>e=.returned .nilIface∧(PrAt B g (selfP g) o l f (T ++ nlB) w'∧Below B w w'∧Lib.OthersKept 5 (some g) w w'):=by
 obtain ⟨i0,hi,hz0,hz1,hz2⟩:=info_parts bld_u8
 go_enter Tryz.func156,Tryz.ntmps156
 go_wp2_with (go_at_call 96;refine (pr_check B g p o l f T _ hp h).mono ?_)
 rintro e w1 ⟨rfl,h1,hb1,hk1⟩
 have hlt:=h1.lt
 obtain ⟨hB,v,hbk,hown,hne⟩:=h1
 have c1:w1.cell? ⟨g,1,none⟩=some v:=by rw [Lib.cell_of_heap hbk];rfl
 go_wp2_with (at_builtin;refine wpList_append_ownF _ rfl _ _ 24 rfl B 5 i0 (.int .u8 0) 1 1 Tryz.underlying24 hi hz0 hz1 hz2 rfl (by decide) _ _ _ rfl (hown.alloc _) ⟨w1.heap.size,0,none⟩ 1 1 [.int .u8 10] rfl rfl ?c1 ?c2 ?c3 ?c4 ?c5 ?_)
 case c1 =>
  intro j u hj
  match j,hj with
  | 0,hj=>simp at hj;subst hj;simp [Addr.add]
 case c2=>intro u hu;simp at hu;subst hu;rfl
 case c3=>unfold maxLen;omega
 case c4=>omega
 case c5=>have:=hb1.size;simp;omega
 intro v' w2 hown' hgrow _
 have hb2:w2.heap[g]?=some (.cells (prCells (selfP g) v o l f) 133 (0,0)):=by
  rw [hgrow.block g (by simp;omega) (fun e=>hne e.symm),Lib.alloc_old w1 _ g hlt]
  exact hbk
 have d1:w2.cell? ⟨g,1,none⟩=some v:=by rw [Lib.cell_of_heap hb2];rfl
 have f1:w2.frozen? ⟨g,1,none⟩=false:=Lib.frozen_of_heap hb2 1
 obtain ⟨gg,cap,rfl⟩:∃ gg cap,v'=.slice (some ⟨gg,0,none⟩) (T.size+1) cap:=by
  rcases hown'.2 with ⟨_,h0⟩ | ⟨gg,cap,cur,fz,hv,_⟩
  ·omega
  ·exact ⟨gg,cap,hv⟩
 have hsz:(T ++ nlB).size=T.size+1:=by simp [ByteArray.size_append,nlB];rfl
 have hcl:Lib.strCells (T ++ nlB)=Lib.strCells T ++ [.int .u8 10]:=by rw [strCells_app];rfl
 go_wp2
 go_ret
 refine ⟨rfl,?_,?_,((hk1.alloc _).grown hgrow (Lib.ownsRowF_kind (hown.alloc _))).setCell ⟨g,1,none⟩ rfl _⟩
 ·exact pr_put hB hb2 (by rw [hsz,hcl];exact hown')
 ·exact ((hb1.alloc (by have:=hb1.size;omega) _).grown hgrow (by have:=hb1.size;simp;omega) (fun k hk=>(hown.lt k hk).1)).setCell (p:=⟨g,1,none⟩) hB _
set_option maxHeartbeats 2000000 in
theorem pr_string (B g:Nat) (p:Value) (o:PO) (l f:Value) (T:ByteArray) (s:ByteArray) (w:World) (hp:PrIs g p) (h:PrAt B g p o l f T w) (hlen:T.size+s.size≤140737488355328) (hBw:B≤w.heap.size) :
  Calls Tryz.prog 57 #[.pointer (some ⟨g,0,none⟩),.string s] w fun e w'=>e=.returned (.tuple #[.int .i64 s.size,.nilIface])∧(PrAt B g (selfP g) o l f (T ++ s) w'∧Below B w w'∧Lib.OthersKept 5 (some g) w w'):=by
 obtain ⟨i0,hi,hz0,hz1,hz2⟩:=info_parts bld_u8
 go_enter Tryz.func57,Tryz.ntmps57
 go_wp2_with (go_at_call 96;refine (pr_check B g p o l f T _ hp h).mono ?_)
 rintro e w1 ⟨rfl,h1,hb1,hk1⟩
 have hlt:=h1.lt
 obtain ⟨hB,v,hbk,hown,hne⟩:=h1
 have c1:w1.cell? ⟨g,1,none⟩=some v:=by rw [Lib.cell_of_heap hbk];rfl
 go_wp2_with (at_builtin;refine Lib.wpList_append_own_stringF _ rfl _ _ 24 9 rfl B 5 i0 Tryz.underlying24 Tryz.underlying9 hi hz0 hz1 hz2 _ _ _ rfl hown s rfl ?c3 ?c4 ?c5 ?_)
 case c3=>unfold maxLen;omega
 case c4=>omega
 case c5=>have:=hb1.size;omega
 intro v' w2 hown' hgrow _
 have hb2:w2.heap[g]?=some (.cells (prCells (selfP g) v o l f) 133 (0,0)):=by
  rw [hgrow.block g hlt (fun e=>hne e.symm)]
  exact hbk
 have d1:w2.cell? ⟨g,1,none⟩=some v:=by rw [Lib.cell_of_heap hb2];rfl
 have f1:w2.frozen? ⟨g,1,none⟩=false:=Lib.frozen_of_heap hb2 1
 obtain ⟨ao,n',cap,rfl⟩:∃ ao n' cap,v'=.slice ao n' cap:=by
  rcases hown'.2 with ⟨hv,_⟩ | ⟨gg,cap,cur,fz,hv,_⟩
  ·exact ⟨_,_,_,hv⟩
  ·exact ⟨_,_,_,hv⟩
 have hsz:(T ++ s).size=T.size+s.size:=ByteArray.size_append
 go_wp2
 go_ret2
 refine ⟨rfl,?_,?_,(hk1.grown hgrow (Lib.ownsRowF_kind hown)).setCell ⟨g,1,none⟩ rfl _⟩
 ·exact pr_put hB hb2 (by rw [hsz,strCells_app];exact hown')
 ·exact (hb1.grown hgrow (by have:=hb1.size;omega) (fun k hk=>(hown.lt k hk).1)).setCell (p:=⟨g,1,none⟩) hB _
theorem pr_len (B g:Nat) (p:Value) (o:PO) (l f:Value) (T:ByteArray) (w:World) (h:PrAt B g p o l f T w) :
  Calls Tryz.prog 87 #[.pointer (some ⟨g,0,none⟩)] w fun e w'=>e=.returned (.int .i64 T.size)∧w'=w:=by
 obtain ⟨hB,v,hbk,hown,hne⟩:=h
 have c1:w.cell? ⟨g,1,none⟩=some v:=by rw [Lib.cell_of_heap hbk];rfl
 obtain ⟨ao,cap,rfl⟩:∃ ao cap,v=.slice ao T.size cap:=by
  rcases hown.2 with ⟨hv,h0⟩ | ⟨gg,cap,cur,fz,hv,_⟩
  ·exact ⟨none,0,by rw [hv,h0]⟩
  ·exact ⟨_,_,hv⟩
 obtain ⟨n,hn⟩:∃ n,n=T.size:=⟨_,rfl⟩
 rw [← hn] at c1 ⊢
 clear hbk hown hne hn
 go_enter Tryz.func87,Tryz.ntmps87
 go_wp2
 go_ret
 exact ⟨rfl,rfl⟩
set_option maxHeartbeats 2000000 in
theorem pr_text (B g:Nat) (p:Value) (o:PO) (l f:Value) (T:ByteArray) (w:World) (h:PrAt B g p o l f T w) (h0:T.size≠0) :
  Calls Tryz.prog 59 #[.pointer (some ⟨g,0,none⟩)] w fun e w'=>e=.returned (.string T)∧Below B w w':=by
 obtain ⟨hB,v,hbk,hown,hne⟩:=h
 obtain ⟨L,hL⟩:∃ L:List UInt8,L=T.data.toList:=⟨_,rfl⟩
 have hTL:T=⟨L.toArray⟩:=by rw [hL,Array.toArray_toList]
 have hlen:T.size=L.length:=by rw [hL];rfl
 have hcl:Lib.strCells T=Lib.byteCells L:=by rw [hL];rfl
 rw [hlen,hcl] at hown
 rw [hTL]
 rw [hlen] at h0
 clear hTL hcl hlen hL
 obtain ⟨gg,cap,cur,fz,rfl,hbg,hg,hfz,hnc,hcm,hcs,htake⟩:∃ gg cap cur fz,v=.slice (some ⟨gg,0,none⟩) L.length cap∧B≤gg∧w.heap[gg]?=some (.cells cur 5 fz)∧fz.2≤L.length * 1∧L.length≤cap∧cap≤maxLen∧cur.size=cap * 1∧cur.toList.take (L.length * 1)=Lib.byteCells L:=by
  rcases hown.2 with ⟨_,hz⟩ | ⟨gg,cap,cur,fz,hv,r⟩
  ·exact absurd hz h0
  ·exact ⟨gg,cap,cur,fz,hv,r⟩
 have c1:w.drew.cell? ⟨g,1,none⟩=some (.slice (some ⟨gg,0,none⟩) L.length cap):=by
  have:w.drew.heap[g]?=some (.cells (prCells p (.slice (some ⟨gg,0,none⟩) L.length cap) o l f) 133 (0,0)):=hbk
  rw [Lib.cell_of_heap this];rfl
 have hSD:(Builtin.unsafeSliceData_ #[24] 142 #[.slice (some ⟨gg,0,none⟩) L.length cap]).run Tryz.prog w.drew=.ok (.pointer (some ⟨gg,0,none⟩)) w.drew :=
  Lib.run_unsafeSliceData_row _ _ _ _ _ _ (by omega)
 have hUS:(Builtin.unsafeString_ #[142,3] 9 #[.pointer (some ⟨gg,0,none⟩),.int .i64 L.length]).run Tryz.prog w.drew=.ok (.string ⟨L.toArray⟩) (w.drew.freeze ⟨gg,0,none⟩ L.length):=by
  refine Lib.run_unsafeString_row w.drew 142 3 9 5 Tryz.underlying142 (by kernel_rfl) gg cur.size (by have hg':w.drew.heap[gg]?=some (.cells cur 5 fz):=hg;simp [World.shape?,hg']) L (by intro e;rw [e] at h0;exact h0 rfl) (by omega) (by unfold maxLen at hcm;omega) ?_
  intro j x hx
  exact hown.cells (g:=gg) rfl j (.int .u8 x.toNat) (by simp [Lib.byteCells,hx])
 have HFIN:=hide_ (Lib.below_freeze (Below.drew (Below.refl B w)) (p:=⟨gg,0,none⟩) hbg L.length)
 clear hbk hown hne hg hfz htake hcs
 go_enter Tryz.func59,Tryz.ntmps59
 go_wp2
 go_region
 all_goals
  go_wp2
  go_ret
  exact ⟨rfl,HFIN.out⟩
end Go.Proofs.YtikbegmodacopaaGreatDoor
namespace Go.Proofs.YtikbegmodacopaaGreatDoor
open Go.RowKit Go.PlainAid Go.BigFrame
set_option linter.unusedSimpArgs false
set_option linter.unusedVariables false
set_option maxRecDepth 100000
structure Out (b:Nat) (W0 W:World) (v:Value) (S:ByteArray):Prop where
 own:W.ownsRow b 5 1 v S.size (Lib.strCells S)
 bel:Below b W0 W
 hb:b≤W0.heap.size
section
variable {b:Nat} {W0 W W':World} {v v':Value} {S s:ByteArray}
theorem Out.size (h:Out b W0 W v S):b≤W.heap.size:=Nat.le_trans h.hb h.bel.size
theorem Out.slice (h:Out b W0 W v S):∃ A c,v=.slice A S.size c∧S.size≤c:=by
 obtain ⟨A,c,h1,h2,_⟩:=ownsRow_slice h.own
 exact ⟨A,c,h1,h2⟩
theorem Out.below (h:Out b W0 W v S) (hb:Below W.heap.size W W'):Out b W0 W' v S :=
 ⟨((ownsR h.own).below hb).at_ (i:=0) rfl,h.bel.trans (hb.mono h.size),h.hb⟩
theorem Out.alloc (h:Out b W0 W v S) (o:Obj):Out b W0 (W.alloc o) v S:=h.below ((Below.refl _ _).alloc (Nat.le_refl _) o)
theorem Out.nl (h:Out b W0 W v S) (ho:W'.ownsRow b 5 1 v' (S.size+1) (Lib.strCells S ++ [.int .u8 10])) (hg:Below b W W'):Out b W0 W' v' (S ++ ⟨#[10]⟩) :=
 ⟨by rw [ba_size,strCells_app];exact ho,h.bel.trans hg,h.hb⟩
theorem Out.nil_ (W:World):Out W.heap.size W W (.slice none 0 0) e0B:=⟨World.ownsRow_nil _ _ _ _,Below.refl _ _,Nat.le_refl _⟩
end
end Go.Proofs.YtikbegmodacopaaGreatDoor
namespace Go.Proofs.YtikbegmodacopaaGreatDoor
open Go.RowKit Go.PlainAid Go.BigFrame
set_option linter.unusedSimpArgs false
set_option linter.unusedVariables false
set_option maxRecDepth 100000
theorem words_short:∀ r ∈ opRows,r.w.length≤8:=by decide
theorem opR_short (op:Int):(opR op).w.length≤8:=by
 unfold opR
 split
 ·unfold opRow
  rw [List.getD_eq_getElem?_getD]
  cases h:opRows[op.toNat]? with
  | none=>simp
  | some r=>exact words_short r (List.mem_of_getElem? h)
 ·simp
theorem insT_at {x:ObjV} {i:Nat} {op arg:Int} (h:x.code[i]?=some (op,arg)):insT x i=atL x.labels 1 i ++ (⟨#[9]⟩ ++ ⟨(opR op).w.toArray⟩ ++ (if 0<(opR op).width then ⟨#[32]⟩ ++ (if fixT x.fixes 1 i=e0B then sgnT arg else fixT x.fixes 1 i) else e0B) ++ ⟨#[10]⟩):=by
 unfold insT
 rw [h]
end Go.Proofs.YtikbegmodacopaaGreatDoor
namespace Go.Proofs.YtikbegmodacopaaGreatDoor
open Go.RowKit Go.PlainAid Go.BigFrame
set_option linter.unusedSimpArgs false
set_option linter.unusedVariables false
set_option maxRecDepth 100000
theorem stopG_le (x:ObjV) (f:Nat):∀ k,k≤stopG x f k:=by
 induction f with
 | zero=>intro k;exact Nat.le_refl _
 | succ f ih =>
  intro k
  rw [stopG]
  split
  ·exact Nat.le_trans (Nat.le_succ k) (ih (k+1))
  ·exact Nat.le_refl _
theorem stopK_lt (x:ObjV) (i:Nat):i<stopK x i:=stopG_le x 15 (i+1)
theorem dataR_step {x:ObjV} {f i:Nat} (hi:i<x.data.length):dataR x (f+1) i=atL x.labels 2 i ++
   (if fixT x.fixes 2 i=e0B then ⟨#[9,98,121,116,101,115,32]⟩ ++ showT ((x.data.drop i).take (stopK x i - i)) ++ ⟨#[10]⟩ ++ dataR x f (stopK x i)
    else ⟨#[9,119,111,114,100,32]⟩ ++ fixT x.fixes 2 i ++ ⟨#[10]⟩ ++ dataR x f (i+4)):=by rw [dataR,if_neg (by omega)]
theorem dataR_end {x:ObjV} {f i:Nat} (hi:x.data.length≤i):dataR x f i=atL x.labels 2 x.data.length:=by
 cases f with
 | zero=>rfl
 | succ f=>rw [dataR,if_pos hi]
theorem reads_part {W:World} {B n:Nat} {A:Option Addr} {l:List Int} {i j:Nat} (h:Reads W B 1 A n (u8s l)) (hij:i<j) (hj:j≤n):∃ ad,A=some ad∧Reads W B 1 (some (ad.add i)) (j - i) (u8s ((l.drop i).take (j - i))):=by
 have hl:l.length=n:=by simpa using h.1
 obtain ⟨ad,rfl,hb,hc⟩:=h.2 (by omega)
 refine ⟨ad,rfl,by simp [u8s];omega,fun _=>⟨ad.add i,rfl,by rw [block_of_add];exact hb,fun q u hu=>?_⟩⟩
 rw [add_of_add]
 have hq:q<j - i:=by
  have:=(List.getElem?_eq_some_iff.1 hu).1
  simp [u8s] at this
  omega
 refine hc (i+q) u ?_
 rw [← hu]
 simp [u8s,List.getElem?_take,List.getElem?_drop,hq]
end Go.Proofs.YtikbegmodacopaaGreatDoor
namespace Go.Proofs.YtikbegmodacopaaGreatDoor
open Go.RowKit Go.PlainAid Go.BigFrame
set_option linter.unusedSimpArgs false
set_option linter.unusedVariables false
set_option maxRecDepth 100000
theorem zeroR_skip {z:Int} {l:LabV} {L:List LabV} {a:Int} (h:¬ l.sec=3):zeroR z (l :: L) a=zeroR z L a:=by rw [zeroR,if_neg h]
theorem zeroR_at {z:Int} {l:LabV} {L:List LabV} {a:Int} (h:l.sec=3) (h2:¬ a<l.at_):zeroR z (l :: L) a=labLn l ++ zeroR z L a:=by rw [zeroR,if_pos h,if_neg h2]
theorem zeroR_on {z:Int} {l:LabV} {L:List LabV} {a:Int} (h:l.sec=3) (h2:a<l.at_):zeroR z (l :: L) a=spaceT (l.at_ - a) ++ (labLn l ++ zeroR z L l.at_):=by rw [zeroR,if_pos h,if_pos h2]
end Go.Proofs.YtikbegmodacopaaGreatDoor
namespace Go.Proofs.YtikbegmodacopaaGreatDoor
open Go.RowKit Go.PlainAid Go.BigFrame
set_option linter.unusedSimpArgs false
set_option linter.unusedVariables false
set_option maxRecDepth 100000
end Go.Proofs.YtikbegmodacopaaGreatDoor
namespace Go.Proofs.YtikbegmodacopaaGreatDoor
open Go.RowKit Go.PlainAid Go.BigFrame
set_option linter.unusedSimpArgs false
set_option linter.unusedVariables false
set_option maxRecDepth 100000
end Go.Proofs.YtikbegmodacopaaGreatDoor
namespace Go.Proofs.YtikbegmodacopaaGreatDoor
open Go.RowKit Go.PlainAid Go.BigFrame
set_option linter.unusedSimpArgs false
set_option linter.unusedVariables false
set_option maxRecDepth 100000
end Go.Proofs.YtikbegmodacopaaGreatDoor
namespace Go.Proofs.YtikbegmodacopaaGreatDoor
open Go.RowKit Go.PlainAid Go.BigFrame
set_option linter.unusedSimpArgs false
set_option linter.unusedVariables false
set_option maxRecDepth 100000
end Go.Proofs.YtikbegmodacopaaGreatDoor
namespace Go.Proofs.YtikbegmodacopaaGreatDoor
open Go.RowKit Go.PlainAid Go.BigFrame
set_option linter.unusedSimpArgs false
set_option linter.unusedVariables false
set_option maxRecDepth 100000
theorem numsB_byte (s:ByteArray):∀ x ∈ numsB s,isByte x:=by
 intro x hx
 obtain ⟨b,_,rfl⟩:=List.mem_map.1 hx
 have:=b.toNat_lt
 exact ⟨by omega,by omega⟩
theorem numsB_len (s:ByteArray):(numsB s).length=s.size:=by unfold numsB;rw [List.length_map,Array.length_toList];rfl
theorem bytes_of_txt (w:World) (s:ByteArray):∃ cap W2,(convert 9 24 (.string s)).run Tryz.prog w=.ok (.slice (some ⟨w.heap.size,0,none⟩) s.size cap) W2 ∧
  Reads W2 (w.heap.size+1) 1 (some ⟨w.heap.size,0,none⟩) s.size (u8s (numsB s))∧Below w.heap.size w W2∧w.heap.size+1≤W2.heap.size:=by
 refine ⟨_,_,run_bytes_of_string w 9 24 5 s Tryz.underlying9 Tryz.underlying24 Tryz.underlying5,⟨by rw [List.length_map,numsB_len];simp,fun _=>⟨_,rfl,by dsimp only;omega,fun j u hu=>?_⟩⟩,(Below.refl _ w).drew.alloc (Nat.le_refl _) _,by simp⟩
 have hj:j<(numsB s).length:=by
  have:=(List.getElem?_eq_some_iff.1 hu).1
  simpa using this
 rw [List.getElem?_map,List.getElem?_eq_getElem hj] at hu
 have hu2:u=.int .u8 (numsB s)[j]:=by simpa using hu.symm
 have hs:j<s.data.size:=by rw [numsB_len] at hj;exact hj
 have e1:((⟨w.heap.size,0,none⟩:Addr).add j)=⟨w.heap.size,j,none⟩:=by unfold Addr.add;split <;> simp_all
 have e2:=World.cell?_alloc_mark w.drew (bytesRow s (grownCap w s.size 0 5)) 5 ((bytesRow s (grownCap w s.size 0 5)).size,(bytesRow s (grownCap w s.size 0 5)).size+1) j
 rw [e1]
 refine (show _=_ from e2).trans ?_
 rw [bytesRow_at _ _ j hs,hu2]
 simp [numsB]
theorem cat_map_cons {α:Type} (f:α→ByteArray) (a:α) (l:List α):cat ((a :: l).map f)=f a ++ cat (l.map f):=rfl
structure PrtFit (x:ObjV):Prop where
 body:(bodyT x).size≤140737488351232
 atA:∀ i:Nat,i≤x.code.length→(atL x.labels 1 i).size≤140737488351232
 fixA:∀ i:Nat,i<x.code.length→(fixT x.fixes 1 i).size≤140737488351232
 atD:∀ i:Nat,i≤x.data.length→(atL x.labels 2 i).size≤140737488351232
 fixD:∀ i:Nat,i<x.data.length→(fixT x.fixes 2 i).size≤140737488351232
theorem PrtFit.parts {x:ObjV} (h:PrtFit x):(codeT x).size+(dataT x).size+(zeroT x).size+(restT x).size≤140737488351232:=by
 have h1:=h.body
 unfold bodyT at h1
 rw [ba_size,ba_size,ba_size] at h1
 omega
theorem okB_bound {x:ObjV} (h:okB x=true):boundB x=true:=by
 unfold okB at h
 simp only [Bool.and_eq_true] at h
 exact h.1.1.1.1
theorem okB_ents {x:ObjV} (h:okB x=true):∀ t ∈ x.entries,t.name.size≤32:=by
 intro t ht
 unfold okB at h
 simp only [Bool.and_eq_true] at h
 obtain ⟨k,hk,rfl⟩:=List.getElem_of_mem ht
 have h1:=List.all_eq_true.1 h.1.2.2 k (List.mem_range.2 hk)
 rw [entOk,List.getElem?_eq_getElem hk] at h1
 simp only [Bool.and_eq_true,Bool.not_eq_true',decide_eq_false_iff_not] at h1
 omega
end Go.Proofs.YtikbegmodacopaaGreatDoor
namespace Go.Proofs.YtikbegmodacopaaGreatDoor
open Go.RowKit Go.PlainAid
set_option linter.unusedSimpArgs false
set_option linter.unusedVariables false
set_option maxRecDepth 100000
structure SumFit (x:ObjV):Prop where
 l:(x.labels.map fun t=>t.name.size+1).sum≤8388608
 f:(x.fixes.map fun t=>t.name.size+1).sum≤8388608
 t:(x.targets.map fun t=>t.size+1).sum≤8388608
 e:(x.entries.map fun t=>t.name.size+t.lab.size+1).sum≤8388608
theorem e0_size:e0B.size=0:=rfl
theorem cat_le {α:Type} {f:α→ByteArray} {g:α→Nat} {m:Nat}:∀ {l:List α},(∀ a ∈ l,(f a).size≤m * g a)→(cat (l.map f)).size≤m * (l.map g).sum
 | [],_=>by show e0B.size≤_;rw [e0_size];exact Nat.zero_le _
 | a :: l,h=>by
  have h1:=h a (by simp)
  have h2:=cat_le (l:=l) fun b hb=>h b (by simp [hb])
  show (f a ++ cat (l.map f)).size≤m * (g a+(l.map g).sum)
  rw [ba_size,Nat.mul_add]
  omega
theorem sum_filter {α:Type} (p:α→Bool) (g:α→Nat) (l:List α):((l.filter p).map g).sum≤(l.map g).sum:=by
 induction l with
 | nil=>simp
 | cons a l ih =>
  rw [List.filter_cons]
  split
  ·simp only [List.map_cons,List.sum_cons];omega
  ·simp only [List.map_cons,List.sum_cons];omega
theorem sum_mem {α:Type} (g:α→Nat) {l:List α} {a:α} (h:a ∈ l):g a≤(l.map g).sum:=by
 induction l with
 | nil=>cases h
 | cons b l ih =>
  simp only [List.map_cons,List.sum_cons]
  rcases List.mem_cons.1 h with rfl | h
  ·omega
  ·have:=ih h;omega
theorem labLn_size (l:LabV):(labLn l).size=l.name.size+2:=by unfold labLn;rw [ba_size];rfl
theorem atL_size {x:ObjV} (h:SumFit x) (sec at_:Int):(atL x.labels sec at_).size≤16777216:=by
 have h1:=cat_le (f:=labLn) (g:=fun t:LabV=>t.name.size+1) (m:=2) (l:=x.labels.filter (labAt sec at_)) fun a _=>by rw [labLn_size];omega
 have h2:=sum_filter (labAt sec at_) (fun t:LabV=>t.name.size+1) x.labels
 have h3:=h.l
 unfold atL
 omega
theorem fixT_size {x:ObjV} (hx:ObjOk x) (h:SumFit x) (sec at_:Int):(fixT x.fixes sec at_).size≤8388640:=by
 unfold fixT
 split
 ·rename_i f hf
  have hm:=List.mem_of_find?_eq_some hf
  have h1:=sum_mem (fun t:FixV=>t.name.size+1) hm
  have h2:=h.f
  have h3:=(hx.fixes f hm).2.2.2
  unfold fixTx
  split
  ·omega
  ·have h4:=decT_size f.add.toNat (by omega)
   rw [ba_size,ba_size,show (⟨#[43]⟩:ByteArray).size=1 from rfl]
   omega
 ·rw [e0_size];omega
theorem sgnT_le {a:Int} (h0:0≤a) (h1:a<4294967296):(sgnT a).size≤21:=by
 by_cases h:2147483648≤a
 ·have:=decT_size (4294967296 - a).toNat (by omega)
  rw [sgnT_neg h h1,ba_size]
  show 1+(decT _).size≤21
  omega
 ·have:=decT_size a.toNat (by omega)
  rw [sgnT_pos h0 h]
  show (decT _).size≤21
  omega
theorem insT_size {x:ObjV} (hx:ObjOk x) (h:SumFit x) (i:Nat):(insT x i).size≤25165900:=by
 have h1:=atL_size h 1 i
 have h2:=fixT_size hx h 1 i
 unfold insT
 rw [ba_size]
 split
 ·rw [e0_size];omega
 ·rename_i t ht
  have h3:=sgnT_le (hx.code t (List.mem_of_getElem? ht)).2.1 (hx.code t (List.mem_of_getElem? ht)).2.2
  have h4:=opR_short t.1
  have h5:(if 0<(opR t.1).width then ⟨#[32]⟩ ++ (if fixT x.fixes 1 i=e0B then sgnT t.2 else fixT x.fixes 1 i) else e0B:ByteArray).size≤8388641:=by
   split
   ·rw [ba_size,show (⟨#[32]⟩:ByteArray).size=1 from rfl]
    split <;> omega
   ·rw [e0_size];omega
  rw [ba_size,ba_size,ba_size,show (⟨#[9]⟩:ByteArray).size=1 from rfl,show (⟨#[10]⟩:ByteArray).size=1 from rfl,show (⟨(opR t.1).w.toArray⟩:ByteArray).size=(opR t.1).w.length from by simp [ByteArray.size]]
  omega
theorem codeR_size {x:ObjV} (hx:ObjOk x) (h:SumFit x):∀ (k i:Nat),(codeR x k i).size≤16777216+k * 25165900
 | 0,i=>by have:=atL_size h 1 i;unfold codeR;omega
 | k+1,i=>by
  have h1:=insT_size hx h i
  have h2:=codeR_size hx h k (i+1)
  unfold codeR
  rw [ba_size,Nat.succ_mul]
  omega
theorem showT_size (l:List Int):(showT l).size≤4 * l.length+2:=by
 have:=showM_len l
 unfold showT showL
 rw [strOfNums_size,List.length_append]
 simp only [List.length_cons,List.length_nil]
 omega
theorem dataR_size {x:ObjV} (hx:ObjOk x) (h:SumFit x) (hd:x.data.length≤65536):∀ (k i:Nat),(dataR x k i).size≤16777216+k * 33554432
 | 0,i=>by have:=atL_size h 2 x.data.length;unfold dataR;omega
 | k+1,i=>by
  have h1:=atL_size h 2 i
  have h0:=atL_size h 2 x.data.length
  have h2:=fixT_size hx h 2 i
  have h3:=dataR_size hx h hd k (stopK x i)
  have h4:=dataR_size hx h hd k (i+4)
  have h5:=showT_size ((x.data.drop i).take (stopK x i - i))
  have h6:((x.data.drop i).take (stopK x i - i)).length≤65536:=by rw [List.length_take,List.length_drop];omega
  unfold dataR
  rw [Nat.succ_mul]
  split
  ·exact Nat.le_trans h0 (Nat.le_add_right _ _)
  ·rw [ba_size]
   generalize (atL x.labels 2 (i:Int)).size=a1 at *
   clear h0 hd
   split
   ·rw [ba_size,ba_size,ba_size,show (⟨#[9,98,121,116,101,115,32]⟩:ByteArray).size=7 from rfl,show (⟨#[10]⟩:ByteArray).size=1 from rfl]
    omega
   ·rw [ba_size,ba_size,ba_size,show (⟨#[9,119,111,114,100,32]⟩:ByteArray).size=6 from rfl,show (⟨#[10]⟩:ByteArray).size=1 from rfl]
    omega
theorem spaceT_size {n:Int} (h:n<4294967296):(spaceT n).size≤28:=by
 have:=decT_size n.toNat (by omega)
 unfold spaceT
 rw [ba_size,ba_size,show (⟨#[9,115,112,97,99,101,32]⟩:ByteArray).size=7 from rfl,show (⟨#[10]⟩:ByteArray).size=1 from rfl]
 omega
theorem zeroR_size {z:Int} (hz:z<4294967296):∀ (L:List LabV) (at_:Int),(∀ l ∈ L,0≤l.at_∧l.at_<4294967296)→0≤at_→(zeroR z L at_).size≤30 * (L.map fun t=>t.name.size+1).sum+28
 | [],at_,_,h0=>by
  unfold zeroR
  split
  ·have:=spaceT_size (n:=z - at_) (by omega)
   omega
  ·rw [e0_size];omega
 | l :: L,at_,h,h0=>by
  have hl:=h l (by simp)
  have h1:=zeroR_size hz L l.at_ (fun b hb=>h b (by simp [hb])) hl.1
  have h2:=zeroR_size hz L at_ (fun b hb=>h b (by simp [hb])) h0
  have h3:=spaceT_size (n:=l.at_ - at_) (by omega)
  unfold zeroR
  simp only [List.map_cons,List.sum_cons]
  split
  ·split
   ·rw [ba_size,ba_size,labLn_size];omega
   ·rw [ba_size,labLn_size];omega
  ·omega
theorem openT_size (l:LabV):(openT l).size≤6 * (l.name.size+1):=by
 unfold openT
 split
 ·rw [ba_size,ba_size,show (⟨#[111,112,101,110,32]⟩:ByteArray).size=5 from rfl,show (⟨#[10]⟩:ByteArray).size=1 from rfl];omega
 ·rw [e0_size];omega
theorem targT_size (t:ByteArray):(targT t).size≤8 * (t.size+1):=by
 unfold targT
 rw [ba_size,ba_size,show (⟨#[116,97,114,103,101,116,32]⟩:ByteArray).size=7 from rfl,show (⟨#[10]⟩:ByteArray).size=1 from rfl];omega
theorem entT_size (t:EntV):(entT t).size≤12 * (t.name.size+t.lab.size+1):=by
 have h1:=showT_size (numsB t.name)
 have h2:(numsB t.name).length=t.name.size:=by
  unfold numsB
  rw [List.length_map]
  rfl
 unfold entT
 rw [ba_size,ba_size,ba_size,ba_size,show (⟨#[101,110,116,114,121,32]⟩:ByteArray).size=6 from rfl,show (⟨#[10]⟩:ByteArray).size=1 from rfl,show (⟨#[44,32]⟩:ByteArray).size=2 from rfl]
 omega
theorem restT_size {x:ObjV} (hx:ObjOk x) (h:SumFit x):(restT x).size≤300000000:=by
 have h1:=cat_le (f:=openT) (l:=x.labels) fun a _=>openT_size a
 have h2:=cat_le (f:=targT) (l:=x.targets) fun a _=>targT_size a
 have h3:=cat_le (f:=entT) (l:=x.entries) fun a _=>entT_size a
 have h4:=h.l
 have h5:=h.t
 have h6:=h.e
 have h7:(stackT x).size≤27:=by
  have:=decT_size x.stack.toNat (by have:=hx.stack;omega)
  unfold stackT
  split
  ·rw [e0_size];omega
  ·rw [ba_size,ba_size,show (⟨#[115,116,97,99,107,32]⟩:ByteArray).size=6 from rfl,show (⟨#[10]⟩:ByteArray).size=1 from rfl];omega
 unfold restT
 rw [ba_size,ba_size,ba_size]
 omega
theorem PrtFit.of {x:ObjV} (hx:ObjOk x) (h:SumFit x) (hb:boundB x=true):PrtFit x:=by
 unfold boundB at hb
 obtain ⟨b1,b2,b3,b4,b5,b6⟩:=of_decide_eq_true hb
 refine ⟨?_,fun i _=>Nat.le_trans (atL_size h 1 i) (by omega),fun i _=>Nat.le_trans (fixT_size hx h 1 i) (by omega),fun i _=>Nat.le_trans (atL_size h 2 i) (by omega),fun i _=>Nat.le_trans (fixT_size hx h 2 i) (by omega)⟩
 have h1:(codeT x).size≤500000000000:=by
  have:=codeR_size hx h x.code.length 0
  unfold codeT
  rw [ba_size,show (⟨#[99,111,100,101,10]⟩:ByteArray).size=5 from rfl]
  omega
 have h2:(dataT x).size≤3000000000000:=by
  have:=dataR_size hx h b2 x.data.length 0
  unfold dataT
  split
  ·rw [e0_size];omega
  ·rw [ba_size,show (⟨#[100,97,116,97,10]⟩:ByteArray).size=5 from rfl];omega
 have h3:(zeroT x).size≤300000000:=by
  have:=zeroR_size hx.zero.2 x.labels 0 (fun l hl=>(hx.labels l hl).2.2) (Int.le_refl _)
  have:=h.l
  unfold zeroT
  split
  ·rw [e0_size];omega
  ·rw [ba_size,show (⟨#[122,101,114,111,10]⟩:ByteArray).size=5 from rfl];omega
 have h4:=restT_size hx h
 unfold bodyT
 rw [ba_size,ba_size,ba_size]
 omega
end Go.Proofs.YtikbegmodacopaaGreatDoor
namespace Go.Proofs.YtikbegmodacopaaGreatDoor
open Go.RowKit Go.PlainAid Go.BigFrame
set_option linter.unusedSimpArgs false
set_option linter.unusedVariables false
set_option maxRecDepth 100000
theorem sum_le_mul {α:Type} {f:α→Nat} {m:Nat}:∀ {l:List α},(∀ a ∈ l,f a≤m)→(l.map f).sum≤l.length * m
 | [],_=>Nat.zero_le _
 | a :: l,h=>by
  have h1:=h a (by simp)
  have h2:=sum_le_mul (l:=l) fun b hb=>h b (by simp [hb])
  rw [List.map_cons,List.sum_cons,List.length_cons,Nat.add_mul]
  omega
theorem oe_parts {x:ImgV} (h:objE x=0):imgChk x=0∧begB x=true∧(plc x).length≤4096:=by
 unfold objE at h
 split at h
 ·exact absurd h (by assumption)
 ·split at h
  ·cases h
  ·split at h
   ·cases h
   ·rename_i h1 h2 h3
    exact ⟨by simpa using h1,by simpa using h2,by omega⟩
theorem fixF_mem {x:ImgV} {n:Nat} {f:FixV} (h:f ∈ fixF x n):∃ (k:Nat) (t:Int × Int),k<n∧x.code[k]?=some t∧f=⟨1,(k:Int),natS t.2,0⟩:=by
 unfold fixF at h
 obtain ⟨k,hk,hf⟩:=List.mem_flatMap.1 h
 rw [List.mem_range] at hk
 cases ht:x.code[k]? with
 | none=>rw [ht] at hf;simp at hf
 | some t =>
  rw [ht] at hf
  dsimp only at hf
  split at hf
  ·exact ⟨k,t,hk,ht,by simpa using hf⟩
  ·simp at hf
theorem nms_size {x:ImgV} (h:nmsB x.names=true):∀ t ∈ x.names,t.name.size≤32:=by
 intro t ht
 obtain ⟨i,hi⟩:=List.mem_iff_getElem?.1 ht
 have h1:=List.all_eq_true.1 h i (List.mem_range.2 (List.getElem?_eq_some_iff.1 hi).1)
 unfold nmOk at h1
 rw [hi] at h1
 dsimp only at h1
 simp only [Bool.and_eq_true,decide_eq_true_eq] at h1
 exact h1.1.2
theorem plc_le {x:ImgV} (hx:ImgOk x) (hb:begB x=true):∀ v ∈ plc x,0≤v∧v≤x.code.length:=fun v h=>allP_le hx hb v ((sortC_mem _ _).1 h)
theorem objOk_of {x:ImgV} (hx:ImgOk x) (h:objE x=0):ObjOk (objO x):=by
 obtain ⟨h1,h2,h3⟩:=oe_parts h
 obtain ⟨⟨l1,l2,l4⟩,l3,hn⟩:=ic_bound hx h1
 have hfl:=fixF_len x x.code.length
 refine ⟨?_,hx.data,hx.zero,hx.stack,?_,?_,?_,?_,?_⟩
 ·intro t ht
  obtain ⟨u,hu,rfl⟩:=List.mem_map.1 ht
  have h5:=hx.code u hu
  unfold codP
  split
  ·exact ⟨h5.1,by dsimp only;omega⟩
  ·exact h5
 ·intro t ht
  obtain ⟨p,hp,rfl⟩:=List.mem_map.1 ht
  have h5:=plc_le hx h2 p hp
  have h6:=natS_size p (by omega)
  refine ⟨by show (natS p).size≤_;omega,by show (0:Int)≤1∧(1:Int)≤255;omega,by show 0≤p∧p<_;omega⟩
 ·intro t ht
  obtain ⟨k,u,hk,hu,rfl⟩:=fixF_mem ht
  have h5:=hx.code u (List.mem_of_getElem? hu)
  have h6:=natS_size u.2 (by omega)
  refine ⟨by show (natS u.2).size≤_;omega,by show (0:Int)≤1∧(1:Int)≤255;omega,by show (0:Int)≤k∧(k:Int)<_;omega,by show (0:Int)≤0∧(0:Int)<_;omega⟩
 ·intro t ht
  obtain ⟨p,hp,rfl⟩:=List.mem_map.1 ht
  have h6:=natS_size p (hx.jumps p hp).2
  omega
 ·intro t ht
  obtain ⟨p,hp,rfl⟩:=List.mem_map.1 ht
  have h6:=natS_size p.at_ (hx.names p hp).2.2
  exact ⟨(hx.names p hp).1,by show (natS p.at_).size≤_;omega⟩
 ·show (x.code.map (codP x.code.length)).length≤_∧x.data.length≤_∧((plc x).map labP).length≤_∧(fixF x x.code.length).length≤_∧(x.jumps.map natS).length≤_∧(x.names.map entP).length≤_
  simp only [List.length_map]
  have:=hx.lens.2.2.1
  omega
theorem sumFit_of {x:ImgV} (hx:ImgOk x) (h:objE x=0):SumFit (objO x):=by
 obtain ⟨h1,h2,h3⟩:=oe_parts h
 obtain ⟨⟨l1,l2,l4⟩,l3,hn⟩:=ic_bound hx h1
 have hfl:=fixF_len x x.code.length
 refine ⟨?_,?_,?_,?_⟩
 ·have:=sum_le_mul (l:=(plc x).map labP) (f:=fun t=>t.name.size+1) (m:=23) fun t ht=>by
   obtain ⟨p,hp,rfl⟩:=List.mem_map.1 ht
   have h5:=plc_le hx h2 p hp
   have h6:=natS_size p (by omega)
   show (natS p).size+1≤23
   omega
  rw [List.length_map] at this
  show (((plc x).map labP).map fun t=>t.name.size+1).sum≤_
  omega
 ·have:=sum_le_mul (l:=fixF x x.code.length) (f:=fun t=>t.name.size+1) (m:=23) fun t ht=>by
   obtain ⟨k,u,hk,hu,rfl⟩:=fixF_mem ht
   have h5:=hx.code u (List.mem_of_getElem? hu)
   have h6:=natS_size u.2 (by omega)
   show (natS u.2).size+1≤23
   omega
  show ((fixF x x.code.length).map fun t=>t.name.size+1).sum≤_
  omega
 ·have:=sum_le_mul (l:=x.jumps.map natS) (f:=fun t=>t.size+1) (m:=23) fun t ht=>by
   obtain ⟨p,hp,rfl⟩:=List.mem_map.1 ht
   have h6:=natS_size p (hx.jumps p hp).2
   show (natS p).size+1≤23
   omega
  rw [List.length_map] at this
  show ((x.jumps.map natS).map fun t=>t.size+1).sum≤_
  omega
 ·have:=sum_le_mul (l:=x.names.map entP) (f:=fun t=>t.name.size+t.lab.size+1) (m:=55) fun t ht=>by
   obtain ⟨p,hp,rfl⟩:=List.mem_map.1 ht
   have h5:=nms_size hn p hp
   have h6:=natS_size p.at_ (hx.names p hp).2.2
   show p.name.size+(natS p.at_).size+1≤55
   omega
  rw [List.length_map] at this
  show ((x.names.map entP).map fun t=>t.name.size+t.lab.size+1).sum≤_
  omega
theorem prtFit_of {x:ImgV} (hx:ImgOk x) (h:objE x=0):okB (objO x)=true→PrtFit (objO x):=fun hk=>PrtFit.of (objOk_of hx h) (sumFit_of hx h) (okB_bound hk)
theorem objR_own {W:World} {B:Nat} {y:ObjV} {s:ObjS} (h:Owns W B (ownO y s)):ObjR W W.heap.size y s:=by
 exact ownO_R h ⟨own_cap (h.at_ (i:=0) rfl),own_cap (h.at_ (i:=1) rfl),own_cap (h.at_ (i:=3) rfl),own_cap (h.at_ (i:=4) rfl),own_cap (h.at_ (i:=2) rfl),own_cap (h.at_ (i:=5) rfl)⟩
theorem obj_cells {W:World} {g:Nat} {y:ObjV} {s:ObjS} (h:Blk W g 36 (objV y s)):W.cell? ⟨g,0,none⟩=some (.slice s.c.A y.code.length s.c.c)∧W.cell? ⟨g,1,none⟩=some (.slice s.d.A y.data.length s.d.c)∧W.cell? ⟨g,2,none⟩=some (.int .u32 y.zero)∧W.cell? ⟨g,3,none⟩=some (.int .u32 y.stack) ∧
  W.cell? ⟨g,4,none⟩=some (.slice s.l.A y.labels.length s.l.c)∧W.cell? ⟨g,5,none⟩=some (.slice s.f.A y.fixes.length s.f.c)∧W.cell? ⟨g,6,none⟩=some (.slice s.t.A y.targets.length s.t.c)∧W.cell? ⟨g,7,none⟩=some (.slice s.e.A y.entries.length s.e.c) :=
 ⟨h.cell 0,h.cell 1,h.cell 2,h.cell 3,h.cell 4,h.cell 5,h.cell 6,h.cell 7⟩
def txtS (x:ImgV):ByteArray:=if objE x=0 then prtS (objO x) else ⟨#[]⟩
def txtE (x:ImgV):Int:=if objE x=0 then prtE (objO x) else objE x
end Go.Proofs.YtikbegmodacopaaGreatDoor
