/-
  Joined and packed by program.
-/
import Derived.Test.YtikbegmodacopaaGreatDoorC07
import Derived.Maps.RangeWalk
import Derived.Maps.OwnSet
import Derived.Maps.OwnOps
import Derived.MapKept
import Derived.StringKeys
import Derived.Test.YtikbegmodacopaaGreatDoorC04
import Derived.Test.YtikbegmodacopaaGreatDoorC09
namespace Go.Proofs.YtikbegmodacopaaGreatDoor
open Go.RowKit Go.PlainAid Go.BigFrame Go.Maps Go.ChangeMaps Go.WideMaps
set_option linter.unusedSimpArgs false
set_option linter.unusedVariables false
set_option maxRecDepth 100000
abbrev MS:=DataW Unit
theorem KSt:Keyed Tryz.prog 9:=string_keyed Tryz.underlying9
def ks (x:ByteArray):Lit:=.string x.data.toList
def seenAt (w:World) (m n:Nat) (D:MS):Prop:=w.ownsMap Tryz.prog 9 (plainElem Tryz.prog 3) m n D
theorem seenAt.below {w w':World} {B m n:Nat} {D:MS} (h:seenAt w m n D) (hb:Below B w w') (hm:m<B):seenAt w' m n D:=by
 obtain ⟨es,clock,h1,h2⟩:=h
 exact ⟨es,clock,(hb.block m hm).trans h1,h2⟩
theorem zero_int (w:World):(zeroValue 3).run Tryz.prog w=.ok (.int .i64 0) w:=by kernel_rfl
theorem wf_zi:(Lit.int .i64 0).wf=true:=by kernel_rfl
theorem seen_run {w:World} {m n:Nat} {D:MS} (h:seenAt w m n D) (x:ByteArray) (hx:x.size≤maxLen):∃ c:Int,(Instr.lookup 187 (.map (some m)) (.string x) true).run Tryz.prog w=.ok (.tuple #[.int .i64 c,.bool (Maps.has D (ks x))]) w:=by
 obtain ⟨v,ps,hrun,hv⟩:=World.ownsMap.look_ok h KSt Tryz.underlying187 (zero_int w) (plainElem_int Tryz.underlying3 wf_zi) (keyOf_string_mk Tryz.underlying9 hx)
 obtain ⟨c,rfl,_,_⟩:=plainElem_int_inv Tryz.underlying3 hv
 exact ⟨c,hrun⟩
theorem seen_put {w:World} {m n:Nat} {D:MS} (h:seenAt w m n D) (x:ByteArray) (hx:x.size≤maxLen) (hn:n<maxLen) (v:Int) (hv:(Lit.int .i64 v).wf=true) :
  ∃ w',(Instr.mapUpdate 187 (.map (some m)) (.string x) (.int .i64 v)).run Tryz.prog w=.ok () w'∧seenAt w' m (n+1) (D.put (ks x) (.lit (.int .i64 v)))∧w.grownBy w' (some m) :=
 World.ownsMap.update h KSt Tryz.underlying187 hn (keyOf_string_mk Tryz.underlying9 hx) (plainElem_int Tryz.underlying3 hv)
def inB (y:ByteArray) (l:List ByteArray):Bool:=l.any fun z=>decide (z=y)
theorem inB_snoc (y x:ByteArray) (l:List ByteArray):inB y (l ++ [x])=(inB y l || decide (x=y)):=by simp [inB]
structure SeenP (D:MS) (l:List ByteArray):Prop where
 map:Maps.IsMap D
 has:∀ y,Maps.has D (ks y)=inB y l
theorem ks_inj {x y:ByteArray} (h:ks x=ks y):x=y:=by
 have h1:x.data.toList=y.data.toList:=by unfold ks at h;injection h
 exact ByteArray.ext (Array.toList_inj.1 h1)
theorem SeenP.nil:SeenP (.map []) []:=⟨⟨_,rfl⟩,fun y=>rfl⟩
theorem SeenP.put {D:MS} {l:List ByteArray} (h:SeenP D l) (x:ByteArray) (v:Int):SeenP (D.put (ks x) (.lit (.int .i64 v))) (l ++ [x]):=by
 refine ⟨?_,fun y=>?_⟩
 ·obtain ⟨es,rfl⟩:=h.map
  exact ⟨_,rfl⟩
 ·by_cases hy:y=x
  ·subst hy
   rw [Maps.has_put_same h.map (by exact trivial),inB_snoc]
   simp
  ·rw [Maps.has_put_other (fun e=>hy (ks_inj e)),h.has,inB_snoc,decide_eq_false (fun e=>hy e.symm),Bool.or_false]
def labOk (x:ObjV) (k:Nat):Bool :=
 match x.labels[k]? with
 | none=>true
 | some t=>nameB t.name && !decide (t.sec<1) && !decide (3<t.sec) && !decide (lenOf x t.sec<t.at_) && !inB t.name ((x.labels.take k).map (·.name)) &&
  (match k with
   | 0=>true
   | k+1=>match x.labels[k]? with
    | none=>true
    | some p=>!(decide (t.sec<p.sec) || (decide (t.sec=p.sec) && decide (t.at_<p.at_))))
def labsB (x:ObjV):Bool:=(List.range x.labels.length).all (labOk x)
theorem labsB_false {x:ObjV} {k:Nat} (hk:k<x.labels.length) (h:labOk x k=false):labsB x=false:=by
 unfold labsB
 rw [List.all_eq_false]
 exact ⟨k,List.mem_range.2 hk,by rw [h];simp⟩
theorem labsB_true {x:ObjV} (h:∀ k,k<x.labels.length→labOk x k=true):labsB x=true:=by
 unfold labsB
 rw [List.all_eq_true]
 exact fun k hk=>h k (List.mem_range.1 hk)
theorem labOk_at {x:ObjV} {k:Nat} {t:LabV} (h:x.labels[k]?=some t) (p:LabV) (hp:0<k→x.labels[k - 1]?=some p) :
  labOk x k=(nameB t.name && !decide (t.sec<1) && !decide (3<t.sec) && !decide (lenOf x t.sec<t.at_) && !inB t.name ((x.labels.take k).map (·.name)) && (decide (k=0) || !(decide (t.sec<p.sec) || (decide (t.sec=p.sec) && decide (t.at_<p.at_))))):=by
 unfold labOk
 rw [h]
 cases k with
 | zero=>rfl
 | succ k =>
  have hp':=hp (by omega)
  rw [Nat.add_sub_cancel] at hp'
  dsimp only
  rw [hp']
  simp
theorem cell_grown {w w':World} {m:Nat} (g:w.grownBy w' (some m)) {p:Addr} (hp:p.block<w.heap.size) (hne:p.block≠m):w'.cell? p=w.cell? p :=
 World.cell?_of_block (g.block _ hp (fun e=>hne (by injection e)))
theorem all_next {f:Nat→Bool} {k:Nat} (h:∀ j,j<k→f j=true) (hk:f k=true):∀ j,j<k+1→f j=true:=fun j hj=>by
 rcases Nat.lt_or_ge j k with h1 | h1
 ·exact h j h1
 ·obtain rfl:j=k:=by omega
  exact hk
theorem wf_nat {k:Nat} (h:k≤9223372036854775807):(Lit.int .i64 (k:Int)).wf=true:=by
 simp [Lit.wf,IntKind.min,IntKind.max,IntKind.bits,IntKind.signed]
 omega
end Go.Proofs.YtikbegmodacopaaGreatDoor
namespace Go.Proofs.YtikbegmodacopaaGreatDoor
open Go.RowKit Go.PlainAid Go.BigFrame
set_option linter.unusedSimpArgs false
set_option linter.unusedVariables false
set_option maxRecDepth 100000
def inFix (f:FixV) (l:LabV):Bool:=decide (f.sec=2) && decide (l.sec=2) && decide (f.at_<l.at_) && decide (l.at_<f.at_+4)
def withinB (x:ObjV) (f:FixV):Bool:=x.labels.any (inFix f)
theorem within_false {x:ObjV} {f:FixV} (h:∀ k,k<x.labels.length→∀ l,x.labels[k]?=some l→inFix f l=false):withinB x f=false:=by
 unfold withinB
 rw [List.any_eq_false]
 intro l hl
 obtain ⟨k,hk,rfl⟩:=List.getElem_of_mem hl
 rw [h k hk _ (List.getElem?_eq_getElem hk)]
 simp
theorem within_true {x:ObjV} {f:FixV} {l:LabV} (hl:l ∈ x.labels) (h:inFix f l=true):withinB x f=true:=by
 unfold withinB
 rw [List.any_eq_true]
 exact ⟨l,hl,h⟩
set_option maxHeartbeats 4000000 in
theorem within_any (x:ObjV) (s:ObjS) (f:FixV) (w:World) (hx:ObjOk x) (hf:f.sec=2→f.at_+4<4294967296) (hf0:0≤f.at_∧f.at_<4294967296) (hr:ObjR w w.heap.size x s) :
  Calls Tryz.prog 155 #[.agg (objV x s),.agg #[.int .u8 f.sec,.int .u32 f.at_,.string f.name,.int .u32 f.add]] w fun e w'=>e=.returned (.bool (withinB x f))∧Below w.heap.size w w':=by
 obtain ⟨_,_,hl,_,_,_⟩:=hx.lens
 have HRL:=hide_ hr.rl
 have HOK:=hide_ hx.labels
 obtain ⟨⟨cA,cc⟩,⟨dA,dc⟩,⟨lA,lc⟩,⟨fA,fc⟩,⟨tA,tc⟩,⟨eA,ec⟩⟩:=s
 dsimp only [objV] at HRL ⊢
 obtain ⟨n,hn⟩:∃ n,n=x.labels.length:=⟨_,rfl⟩
 rw [← hn] at HRL hl ⊢
 have HN:=hide_ hn
 obtain ⟨fsec,fat,fnm,fadd⟩:=f
 simp only at hf hf0 ⊢
 obtain ⟨hf0,hf1⟩:=hf0
 have HF:=hide_ hf
 clear hx hr hn hf
 go_enter Tryz.func155,Tryz.ntmps155
 go_wp2
 go_loopw [10] (fun i wr=>∃ k:Nat,k≤n∧i=.int .i64 k∧Hid (∀ j,j<k→∀ l,x.labels[j]?=some l→inFix ⟨fsec,fat,fnm,fadd⟩ l=false) ∧
  wr.cell? ⟨w.heap.size+1,0,none⟩=some (.int .u8 fsec)∧wr.cell? ⟨w.heap.size+1,1,none⟩=some (.int .u32 fat)∧w.heap.size+1<wr.heap.size∧Below w.heap.size w wr) (fun i _=>n - (intOf i).toNat)
 case atStart=>exact ⟨0,Nat.zero_le _,rfl,hide_ (fun j hj=>absurd hj (by omega)),by simp,by simp,by simp,((Below.refl _ _).alloc (Nat.le_refl _) _).alloc (by simp) _⟩
 case round =>
  obtain ⟨k,hk,rfl,HALL,z0,z1,hz,hb⟩:=hrel
  have HB:=hide_ hb
  have hbz:=hb.size
  by_cases hlt:k<n
  ·obtain ⟨t,ht⟩:∃ t,x.labels[k]?=some t:=⟨_,List.getElem?_eq_getElem (by have:=HN.out;omega)⟩
   obtain ⟨_,⟨sec0,sec1⟩,pl0,pl1⟩:=HOK.out t (List.mem_of_getElem? ht)
   obtain ⟨_,ad,rfl,hbk,p0,p1⟩:=el_cells lE_len (HRL.out.below hb) (by omega) ht
   have q0:=p0 _ rfl
   have q1:=p1 1 _ (by omega) rfl
   have q2:=p1 2 _ (by omega) rfl
   have q3:=p1 3 _ (by omega) rfl
   have hbs:(ad.add (k * 4)).block<wr.heap.size:=by omega
   have HT:=hide_ (fun h=>within_true (x:=x) (f:=⟨fsec,fat,fnm,fadd⟩) (List.mem_of_getElem? ht) h)
   have HF2:=hide_ (fun (h:inFix ⟨fsec,fat,fnm,fadd⟩ t=false)=>show ∀ j,j<k+1→∀ l,x.labels[j]?=some l→inFix ⟨fsec,fat,fnm,fadd⟩ l=false from fun j hj l hjl=>by
    rcases Nat.lt_or_ge j k with h1 | h1
    ·exact HALL.out j h1 l hjl
    ·obtain rfl:j=k:=by omega
     rw [ht] at hjl
     injection hjl with e
     exact e ▸ h)
   obtain ⟨nm,sec,pl,opn⟩:=t
   simp only [inFix] at q0 q1 q2 q3 sec0 sec1 pl0 pl1 HT HF2
   clear hb p0 p1 ht hbk
   by_cases h1:fsec=2
   ·have g1:(fsec == 2)=true:=by simpa using h1
    have hw4:=HF.out h1
    by_cases h2:sec=2
    ·have g2:(sec == 2)=true:=by simpa using h2
     by_cases h3:fat<pl
     ·have g3:decide (fat<pl)=true:=decide_eq_true h3
      by_cases h4:pl<fat+4
      ·have g4:decide (pl<fat+4)=true:=decide_eq_true h4
       have HEND:=hide_ (HT.out (by rw [decide_eq_true h1,decide_eq_true h2,g3,g4];rfl))
       clear h1 h2 h3 h4
       go_wp2
       go_ret
       exact ⟨by rw [HEND.out];rfl,HB.out.alloc HB.out.size _⟩
      ·have g4:decide (pl<fat+4)=false:=decide_eq_false h4
       have HEND:=hide_ (HF2.out (by rw [g4,Bool.and_false]))
       clear h1 h2 h3 h4
       go_wp2
       go_roundw
       case rel=>exact ⟨k+1,by omega,by go_num,HEND,(World.cell?_alloc_lt wr _ ⟨w.heap.size+1,0,none⟩ hz).trans z0,(World.cell?_alloc_lt wr _ ⟨w.heap.size+1,1,none⟩ hz).trans z1,by simp;omega,HB.out.alloc HB.out.size _⟩
       case measure=>simp [intOf];omega
     ·have g3:decide (fat<pl)=false:=decide_eq_false h3
      have HEND:=hide_ (HF2.out (by rw [g3,Bool.and_false];rfl))
      clear h1 h2 h3
      go_wp2
      go_roundw
      case rel=>exact ⟨k+1,by omega,by go_num,HEND,(World.cell?_alloc_lt wr _ ⟨w.heap.size+1,0,none⟩ hz).trans z0,(World.cell?_alloc_lt wr _ ⟨w.heap.size+1,1,none⟩ hz).trans z1,by simp;omega,HB.out.alloc HB.out.size _⟩
      case measure=>simp [intOf];omega
    ·have g2:(sec == 2)=false:=by simpa using h2
     have HEND:=hide_ (HF2.out (by rw [decide_eq_false h2,Bool.and_false];rfl))
     clear h1 h2
     go_wp2
     go_roundw
     case rel=>exact ⟨k+1,by omega,by go_num,HEND,(World.cell?_alloc_lt wr _ ⟨w.heap.size+1,0,none⟩ hz).trans z0,(World.cell?_alloc_lt wr _ ⟨w.heap.size+1,1,none⟩ hz).trans z1,by simp;omega,HB.out.alloc HB.out.size _⟩
     case measure=>simp [intOf];omega
   ·have g1:(fsec == 2)=false:=by simpa using h1
    have HEND:=hide_ (HF2.out (by rw [decide_eq_false h1];rfl))
    clear h1
    go_wp2
    go_roundw
    case rel=>exact ⟨k+1,by omega,by go_num,HEND,(World.cell?_alloc_lt wr _ ⟨w.heap.size+1,0,none⟩ hz).trans z0,(World.cell?_alloc_lt wr _ ⟨w.heap.size+1,1,none⟩ hz).trans z1,by simp;omega,HB.out.alloc HB.out.size _⟩
    case measure=>simp [intOf];omega
  ·obtain rfl:k=n:=by omega
   have HEND:=hide_ (within_false (x:=x) (f:=⟨fsec,fat,fnm,fadd⟩) (fun j hj=>HALL.out j (by rw [HN.out];exact hj)))
   clear hb hbz
   go_wp2
   go_ret
   exact ⟨by rw [HEND.out];rfl,HB.out⟩
end Go.Proofs.YtikbegmodacopaaGreatDoor
namespace Go.Proofs.YtikbegmodacopaaGreatDoor
open Go.RowKit Go.PlainAid Go.BigFrame
set_option linter.unusedSimpArgs false
set_option linter.unusedVariables false
set_option maxRecDepth 100000
def blankB (x:ObjV) (f:FixV):Bool :=
 if f.sec=1 then (match x.code[f.at_.toNat]? with
  | some t=>decide (0<(opR t.1).width) && decide (t.2=0)
  | none=>false)
 else if f.sec=2 then decide (f.at_+4≤x.data.length) && decide ((x.data.drop f.at_.toNat).take 4=[0,0,0,0])
 else false
theorem blankB_eq (x:ObjV) (fsec:Int) (m:Nat) (fnm:ByteArray) (fadd:Int):blankB x ⟨fsec,(m:Int),fnm,fadd⟩=(if fsec=1 then (match x.code[m]? with
  | some t=>decide (0<(opR t.1).width) && decide (t.2=0)
  | none=>false)
 else if fsec=2 then decide ((m:Int)+4≤x.data.length) && decide ((x.data.drop m).take 4=[0,0,0,0])
 else false):=by simp [blankB]
theorem reads_take {w:World} {B n k:Nat} {A:Option Addr} {xs:List Value} (h:Reads w B 1 A n xs) (hk:k≤n):Reads w B 1 A k (xs.take k):=by
 refine ⟨by rw [List.length_take,h.1];omega,fun hp=>?_⟩
 obtain ⟨ad,e,hb,hc⟩:=h.2 (by omega)
 refine ⟨ad,e,hb,fun j u hu=>hc j u ?_⟩
 rw [List.getElem?_take] at hu
 split at hu
 ·exact hu
 ·simp at hu
theorem four_nought {l:List Int} (h:∀ b ∈ l,0≤b∧b≤255):decide (strOfNums l=⟨#[0,0,0,0]⟩)=decide (l=[0,0,0,0]):=by
 by_cases h1:l=[0,0,0,0]
 ·subst h1;rfl
 ·rw [decide_eq_false h1]
  apply decide_eq_false
  intro h2
  apply h1
  have h3:(strOfNums l).data.toList=[0,0,0,0]:=by rw [h2]
  have h4:l.map (fun n=>UInt8.ofNat n.toNat)=[0,0,0,0]:=by simpa [strOfNums] using h3
  match l,h,h4 with
  | [a,b,c,d],h,h4 =>
   simp at h4
   obtain ⟨q1,q2,q3,q4⟩:=h4
   have key:∀ z:Int,(0≤z∧z≤255)→UInt8.ofNat z.toNat=0→z=0:=fun z hz he=>by
    have:=congrArg UInt8.toNat he
    simp at this
    omega
   rw [key a (h a (by simp)) q1,key b (h b (by simp)) q2,key c (h c (by simp)) q3,key d (h d (by simp)) q4]
  | [],_,h4=>simp at h4
  | [_],_,h4=>simp at h4
  | [_,_],_,h4=>simp at h4
  | [_,_,_],_,h4=>simp at h4
  | _ :: _ :: _ :: _ :: _ :: _,_,h4=>simp at h4
set_option maxHeartbeats 4000000 in
theorem blank_any (x:ObjV) (s:ObjS) (f:FixV) (w:World) (hx:ObjOk x) (hB:boundB x=true) (hf0:0≤f.at_∧f.at_<4294967296) (hr:ObjR w w.heap.size x s) :
  Calls Tryz.prog 154 #[.agg (objV x s),.agg #[.int .u8 f.sec,.int .u32 f.at_,.string f.name,.int .u32 f.add]] w fun e w'=>e=.returned (.bool (blankB x f))∧Below w.heap.size w w':=by
 obtain ⟨l1,l2,_,_,_,_⟩:=boundB_iff.1 hB
 have HRC:=hide_ hr.rc
 have HRD:=hide_ hr.rd
 have HOC:=hide_ hx.code
 have HOD:=hide_ hx.data
 have hcap:=hr.caps.2.1
 obtain ⟨⟨cA,cc⟩,⟨dA,dc⟩,⟨lA,lc⟩,⟨fA,fc⟩,⟨tA,tc⟩,⟨eA,ec⟩⟩:=s
 dsimp only [objV] at HRC HRD hcap ⊢
 obtain ⟨n,hn⟩:∃ n,n=x.code.length:=⟨_,rfl⟩
 obtain ⟨nd,hnd⟩:∃ n,n=x.data.length:=⟨_,rfl⟩
 rw [← hn] at HRC l1 ⊢
 rw [← hnd] at HRD l2 hcap ⊢
 have HN:=hide_ hn
 have HND:=hide_ hnd
 obtain ⟨fsec,fat,fnm,fadd⟩:=f
 simp only at hf0 ⊢
 obtain ⟨m,hm⟩:∃ m:Nat,fat=(m:Int):=⟨fat.toNat,by omega⟩
 subst hm
 have hm4:m<4294967296:=by omega
 have HBK:=hide_ (blankB_eq x fsec m fnm fadd)
 clear hx hB hr hn hnd hf0
 by_cases h1:fsec=1
 ·have HBK2:=HBK.out
  rw [if_pos h1] at HBK2
  subst h1
  by_cases h2:m<n
  ·obtain ⟨t,ht⟩:∃ t,x.code[m]?=some t:=⟨_,List.getElem?_eq_getElem (by have:=HN.out;omega)⟩
   obtain ⟨⟨op0,op1⟩,ar0,ar1⟩:=HOC.out t (List.mem_of_getElem? ht)
   obtain ⟨_,ad,rfl,hbk,p0,p1⟩:=el_cells cE_len HRC.out (by omega) ht
   rw [ht] at HBK2
   obtain ⟨op,arg⟩:=t
   simp only at HBK2 op0 op1 ar0 ar1
   have q0:=p0 _ rfl
   have q1:=p1 1 _ (by omega) rfl
   have hbs:(ad.add (m * 2)).block<w.heap.size:=hbk
   obtain ⟨r,hrr⟩:∃ r,r=opR op:=⟨_,rfl⟩
   have HI:=hide_ (fun w=>Info_any op w)
   have hV:opV op=(opCells r).toArray:=by rw [hrr];rfl
   rw [hV] at HI
   unfold opCells at HI
   rw [← hrr] at HBK2
   have HB2:=hide_ HBK2
   clear HBK2 p0 p1 ht hV hrr HBK
   go_enter Tryz.func154,Tryz.ntmps154
   go_wp2_with fail
   refine (HI.out _).mono ?_
   rintro e w1 ⟨rfl,hb⟩
   have hc1:w1.cell? ⟨w.heap.size+2,1,none⟩=some (.int .u32 arg):=(hb.cell (p:=⟨w.heap.size+2,1,none⟩) (by simp)).trans (by go_simp)
   have hz:w.heap.size+2<w1.heap.size:=by have:=hb.size;simp at this;omega
   have HB:=hide_ (show Below w.heap.size w w1 from ((((Below.refl _ _).alloc (Nat.le_refl _) _).alloc (by simp) _).alloc (by simp;omega) _).trans (hb.mono (by simp;omega)))
   clear hb
   by_cases hw:0<r.width
   ·have d1:decide ((0:Int)<(r.width:Int))=true:=by simp;exact hw
    have d1':decide (0<r.width)=true:=decide_eq_true hw
    by_cases ha:arg=0
    ·have d2:(arg == 0)=true:=by simpa using ha
     have HEND:=hide_ (show blankB x ⟨1,(m:Int),fnm,fadd⟩=true by rw [HB2.out,d1',decide_eq_true ha];rfl)
     clear hw ha
     go_wp2
     go_ret
     exact ⟨by rw [HEND.out];rfl,(HB.out).alloc HB.out.size _⟩
    ·have d2:(arg == 0)=false:=by simpa using ha
     have HEND:=hide_ (show blankB x ⟨1,(m:Int),fnm,fadd⟩=false by rw [HB2.out,decide_eq_false ha,Bool.and_false])
     clear hw ha
     go_wp2
     go_ret
     exact ⟨by rw [HEND.out];rfl,(HB.out).alloc HB.out.size _⟩
   ·have d1:decide ((0:Int)<(r.width:Int))=false:=by simp;omega
    have d1':decide (0<r.width)=false:=decide_eq_false hw
    have HEND:=hide_ (show blankB x ⟨1,(m:Int),fnm,fadd⟩=false by rw [HB2.out,d1'];rfl)
    clear hw
    go_wp2
    go_ret
    exact ⟨by rw [HEND.out];rfl,(HB.out).alloc HB.out.size _⟩
  ·have HEND:=hide_ (show blankB x ⟨1,(m:Int),fnm,fadd⟩=false by rw [HBK2,List.getElem?_eq_none (by have:=HN.out;omega)])
   have d1:decide ((n:Int)≤(m:Int))=true:=by simp;omega
   clear HBK2 HBK
   go_enter Tryz.func154,Tryz.ntmps154
   go_wp2
   go_ret
   exact ⟨by rw [HEND.out];rfl,((Below.refl _ _).alloc (Nat.le_refl _) _).alloc (by simp) _⟩
 ·have g1:(fsec == 1)=false:=by simpa using h1
  have HBK2:=HBK.out
  rw [if_neg h1] at HBK2
  clear HBK
  by_cases h2:fsec=2
  ·rw [if_pos h2] at HBK2
   subst h2
   by_cases h3:m+4≤nd
   ·have hrd:=HRD.out.cut (k:=m) (cap:=dc) (by omega) hcap
    have hrd4:=reads_take hrd (k:=4) (by omega)
    obtain ⟨ad,rfl,hbk,_⟩:=HRD.out.2 (by omega)
    rw [if_neg (by omega),Nat.mul_one,← List.map_drop,← List.map_take] at hrd4
    simp only [Option.map_some,Nat.mul_one] at hrd4
    have hcv:=run_str_of_reads ((w.alloc (.cells #[.slice cA n cc,.slice (some ad) nd dc,.int .u32 x.zero,.int .u32 x.stack,.slice lA x.labels.length lc,.slice fA x.fixes.length fc,.slice tA x.targets.length tc,.slice eA x.entries.length ec] 36)).alloc (.cells #[.int .u8 2,.int .u32 (m:Int),.string fnm,.int .u32 fadd] 81)) w.heap.size 24 5 Tryz.underlying24 Tryz.underlying5 (some (ad.add m)) 4 (dc - m) ((x.data.drop m).take 4) ((hrd4.alloc (Nat.le_refl _) _).alloc (by simp) _) 9 Tryz.underlying9
    have hby:∀ b ∈ (x.data.drop m).take 4,0≤b∧b≤255:=fun b hb=>HOD.out b (List.mem_of_mem_drop (List.mem_of_mem_take hb))
    have HEND:=hide_ (show blankB x ⟨2,(m:Int),fnm,fadd⟩=decide (strOfNums ((x.data.drop m).take 4)=⟨#[0,0,0,0]⟩) by rw [HBK2,decide_eq_true (by have:=HND.out;omega),four_nought hby];rfl)
    obtain ⟨S,hS⟩:∃ S,S=strOfNums ((x.data.drop m).take 4):=⟨_,rfl⟩
    rw [← hS] at hcv HEND
    have d1:decide ((nd:Int)<(m:Int)+4)=false:=by simp;omega
    have m0:(0:Int)≤(m:Int):=by omega
    have m1:((m:Int)+4) % 4294967296=(m:Int)+4:=by omega
    have m2:((m:Int)+4).toNat=m+4:=by omega
    have m3:¬ dc=m:=by omega
    have m4:(m:Int)+4≤(dc:Int):=by omega
    have m5:m+4 - m=4:=by omega
    clear HBK2 h1 hrd hrd4 hby hS
    go_enter Tryz.func154,Tryz.ntmps154
    go_wp2
    go_ret
    exact ⟨by rw [HEND.out,← str_beq];first | rfl | simp,((Below.refl _ _).alloc (Nat.le_refl _) _).alloc (by simp) _⟩
   ·have HEND:=hide_ (show blankB x ⟨2,(m:Int),fnm,fadd⟩=false by rw [HBK2,decide_eq_false (by have:=HND.out;omega)];rfl)
    have d1:decide ((nd:Int)<(m:Int)+4)=true:=by simp;omega
    clear HBK2 h1
    go_enter Tryz.func154,Tryz.ntmps154
    go_wp2
    go_ret
    exact ⟨by rw [HEND.out];rfl,((Below.refl _ _).alloc (Nat.le_refl _) _).alloc (by simp) _⟩
  ·rw [if_neg h2] at HBK2
   have g2:(fsec == 2)=false:=by simpa using h2
   have HEND:=hide_ HBK2
   clear HBK2 h1 h2
   go_enter Tryz.func154,Tryz.ntmps154
   go_wp2
   go_ret
   exact ⟨by rw [HEND.out];rfl,((Below.refl _ _).alloc (Nat.le_refl _) _).alloc (by simp) _⟩
end Go.Proofs.YtikbegmodacopaaGreatDoor
namespace Go.Proofs.YtikbegmodacopaaGreatDoor
open Go.RowKit Go.PlainAid Go.BigFrame Go.Maps
set_option linter.unusedSimpArgs false
set_option linter.unusedVariables false
set_option maxRecDepth 100000
def tgtOk (x:ObjV) (k:Nat):Bool :=
 match x.targets[k]? with
 | none=>true
 | some t=>nameB t && !inB t (x.targets.take k)
def entOk (x:ObjV) (k:Nat):Bool :=
 match x.entries[k]? with
 | none=>true
 | some t=>!inB t.name ((x.entries.take k).map (·.name)) && !decide (t.name.size<1) && !decide (32<t.name.size) && nameB t.lab
def tgtsB (x:ObjV):Bool:=(List.range x.targets.length).all (tgtOk x)
def entsB (x:ObjV):Bool:=(List.range x.entries.length).all (entOk x)
theorem range_false {n k:Nat} {f:Nat→Bool} (hk:k<n) (h:f k=false):(List.range n).all f=false:=by
 rw [List.all_eq_false]
 exact ⟨k,List.mem_range.2 hk,by rw [h];simp⟩
theorem range_true {n:Nat} {f:Nat→Bool} (h:∀ k,k<n→f k=true):(List.range n).all f=true:=by
 rw [List.all_eq_true]
 exact fun k hk=>h k (List.mem_range.1 hk)
theorem tgtOk_at {x:ObjV} {k:Nat} {t:ByteArray} (h:x.targets[k]?=some t):tgtOk x k=(nameB t && !inB t (x.targets.take k)):=by unfold tgtOk;rw [h]
theorem entOk_at {x:ObjV} {k:Nat} {t:EntV} (h:x.entries[k]?=some t):entOk x k=(!inB t.name ((x.entries.take k).map (·.name)) && !decide (t.name.size<1) && !decide (32<t.name.size) && nameB t.lab):=by unfold entOk;rw [h]
theorem seenAt.lt {w:World} {m n:Nat} {D:MS} (h:seenAt w m n D):m<w.heap.size:=by
 obtain ⟨es,clock,h1,_⟩:=h
 rcases Nat.lt_or_ge m w.heap.size with h2 | h2
 ·exact h2
 ·rw [Array.getElem?_eq_none h2] at h1;cases h1
set_option maxHeartbeats 8000000 in
theorem anamed_any (x:ObjV) (s:ObjS) (w:World) (hx:ObjOk x) (hr:ObjR w w.heap.size x s):Calls Tryz.prog 111 #[.agg (objV x s)] w fun e w'=>e=.returned (.bool (tgtsB x && entsB x))∧Below w.heap.size w w':=by
 obtain ⟨_,_,_,_,hl1,hl2⟩:=hx.lens
 have HRT:=hide_ hr.rt
 have HRE:=hide_ hr.re
 obtain ⟨⟨cA,cc⟩,⟨dA,dc⟩,⟨lA,lc⟩,⟨fA,fc⟩,⟨tA,tc⟩,⟨eA,ec⟩⟩:=s
 dsimp only [objV] at HRT HRE ⊢
 have HNAM:=hide_ (fun (nm:ByteArray) (h:nm.size≤140737488351232) w=>isName_any nm w h)
 have HOT:=hide_ hx.targets
 have HOE:=hide_ hx.entries
 obtain ⟨n,hn⟩:∃ n,n=x.targets.length:=⟨_,rfl⟩
 obtain ⟨ne,hne⟩:∃ n,n=x.entries.length:=⟨_,rfl⟩
 rw [← hn] at HRT hl1 ⊢
 rw [← hne] at HRE hl2 ⊢
 have HN:=hide_ hn
 have HNE:=hide_ hne
 have hmm:=@run_makeMap Tryz.prog
 have HM0:Hid (seenAt ((w.alloc (.cells #[.slice cA x.code.length cc,.slice dA x.data.length dc,.int .u32 x.zero,.int .u32 x.stack,.slice lA x.labels.length lc,.slice fA x.fixes.length fc,.slice tA n tc,.slice eA ne ec] 36)).alloc (.map #[] 0)) (w.alloc (.cells #[.slice cA x.code.length cc,.slice dA x.data.length dc,.int .u32 x.zero,.int .u32 x.stack,.slice lA x.labels.length lc,.slice fA x.fixes.length fc,.slice tA n tc,.slice eA ne ec] 36)).heap.size 0 (.map [])):=hide_ (World.ownsMap_made _ Tryz.prog 9 (plainElem Tryz.prog 3))
 rw [World.size_alloc] at HM0
 clear hx hr hn hne
 go_enter Tryz.func111,Tryz.ntmps111
 go_wp2
 go_loopw [17] (fun i wr=>∃ (k:Nat) (D:MS),k≤n∧i=.int .i64 k∧seenAt wr (w.heap.size+1) k D∧Hid (SeenP D (x.targets.take k))∧Hid (∀ j,j<k→tgtOk x j=true) ∧
  wr.cell? ⟨w.heap.size,7,none⟩=some (.slice eA ne ec)∧Below w.heap.size w wr) (fun i _=>n - (intOf i).toNat)
 case atStart=>exact ⟨0,_,Nat.zero_le _,rfl,HM0.out,hide_ (by simpa using SeenP.nil),hide_ (fun j hj=>absurd hj (by omega)),by simp,((Below.refl _ _).alloc (Nat.le_refl _) _).alloc (by simp) _⟩
 case round =>
  clear HM0
  obtain ⟨k,D,hk,rfl,hm,HS,HALL,o7,hb⟩:=hrel
  have HMM:=hide_ hm
  have hbz:=hb.size
  have hml:=hm.lt
  by_cases hlt:k<n
  ·obtain ⟨t,ht⟩:∃ t,x.targets[k]?=some t:=⟨_,List.getElem?_eq_getElem (by have:=HN.out;omega)⟩
   have htz:=HOT.out t (List.mem_of_getElem? ht)
   have HLO:=hide_ (tgtOk_at ht)
   have HTK:=hide_ (show x.targets.take (k+1)=x.targets.take k ++ [t] by rw [List.take_add_one,ht];rfl)
   obtain ⟨ad,u,rfl,hbk,hu,hc⟩:=(HRT.out.below hb).at_ hlt
   have hu2:u=.string t:=by
    rw [strV,List.getElem?_map,ht] at hu
    simpa using hu.symm
   subst hu2
   obtain ⟨c,lk⟩:=seen_run HMM.out t (by simp only [maxLen];omega)
   rw [HS.out.has t] at lk
   have hbs:(ad.add k).block<wr.heap.size:=by rw [block_of_add];omega
   obtain ⟨b0,hb0⟩:∃ b,b=inB t (x.targets.take k):=⟨_,rfl⟩
   obtain ⟨b1,hb1⟩:∃ b,b=nameB t:=⟨_,rfl⟩
   have HN1:=hide_ (fun W=>HNAM.out t htz W)
   rw [← hb1] at HN1 HLO
   rw [← hb0] at lk HLO
   have HB:=hide_ hb
   clear hm ht hb0 hb hu hb1 hbk
   cases b0
   ·go_wp2_with fail
    refine (HN1.out _).mono ?_
    rintro e w9 ⟨rfl,hb9⟩
    have o9:=(hb9.cell (p:=⟨w.heap.size,7,none⟩) (show w.heap.size<wr.heap.size by omega)).trans o7
    have HM9:=hide_ (HMM.out.below hb9 hml)
    have HB9:=hide_ (HB.out.trans (hb9.mono HB.out.size))
    have hs9:=hb9.size
    have hwz9:w.heap.size<w9.heap.size:=by omega
    clear hb9 lk o7 hc
    cases b1
    ·have HEND:=hide_ (show (tgtsB x && entsB x)=false by rw [show tgtsB x=false from range_false (k:=k) (by have:=HN.out;omega) (by rw [HLO.out];rfl)];rfl)
     go_wp2
     go_ret
     exact ⟨by rw [HEND.out];rfl,HB9.out⟩
    ·obtain ⟨w7,hrun,o7',g7⟩:=seen_put HM9.out t (by simp only [maxLen];omega) (by simp only [maxLen];omega) (k:Int) (wf_nat (by omega))
     have HTR:=hide_ (show tgtOk x k=true by rw [HLO.out];rfl)
     have HO7:=hide_ o7'
     have HG7:=hide_ g7
     clear o7' g7
     go_wp2
     go_roundw
     case rel=>exact ⟨k+1,_,by omega,by go_num,HO7.out,hide_ (by have:=HS.out.put t (k:Int);rw [← HTK.out] at this;exact this),hide_ (all_next (f:=tgtOk x) HALL.out HTR.out),(cell_grown HG7.out (p:=⟨w.heap.size,7,none⟩) hwz9 (by simp)).trans o9,HB9.out.grown HG7.out HB9.out.size (fun j hj=>by cases hj;omega)⟩
     case measure=>simp [intOf];omega
   ·have HEND:=hide_ (show (tgtsB x && entsB x)=false by rw [show tgtsB x=false from range_false (k:=k) (by have:=HN.out;omega) (by rw [HLO.out];cases b1 <;> rfl)];rfl)
    go_wp2
    go_ret
    exact ⟨by rw [HEND.out];rfl,HB.out⟩
  ·obtain rfl:k=n:=by omega
   have HTG:=hide_ (show tgtsB x=true from range_true (fun j hj=>HALL.out j (by rw [HN.out];exact hj)))
   obtain ⟨w1,hw1⟩:∃ w1:World,w1=wr:=⟨_,rfl⟩
   subst hw1
   have HM1:Hid (seenAt (w1.alloc (.map #[] 0)) w1.heap.size 0 (.map [])):=hide_ (World.ownsMap_made _ Tryz.prog 9 (plainElem Tryz.prog 3))
   have HB1:=hide_ hb
   have hwz1:w.heap.size<w1.heap.size:=by omega
   clear HALL HMM HS hm hml HRT HOT hlt hbz hb
   go_wp2
   go_loopw [42] (fun i wr=>∃ (k:Nat) (D:MS),k≤ne∧i=.int .i64 k∧seenAt wr w1.heap.size k D∧Hid (SeenP D ((x.entries.take k).map (·.name)))∧Hid (∀ j,j<k→entOk x j=true)∧Below w1.heap.size w1 wr) (fun i _=>ne - (intOf i).toNat)
   case atStart=>exact ⟨0,_,Nat.zero_le _,rfl,HM1.out,hide_ (by simpa using SeenP.nil),hide_ (fun j hj=>absurd hj (by omega)),(Below.refl _ _).alloc (Nat.le_refl _) _⟩
   case round =>
    clear HM1 hmm o7
    obtain ⟨k,D,hk,rfl,hm,HS,HALL,hb⟩:=hrel
    have HMM:=hide_ hm
    have hbz:=hb.size
    have hml:=hm.lt
    have HB:=hide_ (HB1.out.trans (hb.mono HB1.out.size))
    by_cases hlt:k<ne
    ·obtain ⟨t,ht⟩:∃ t,x.entries[k]?=some t:=⟨_,List.getElem?_eq_getElem (by have:=HNE.out;omega)⟩
     obtain ⟨htz,hlz⟩:=HOE.out t (List.mem_of_getElem? ht)
     have HLO:=hide_ (entOk_at ht)
     have HTK:=hide_ (show (x.entries.take (k+1)).map (·.name)=(x.entries.take k).map (·.name) ++ [t.name] by rw [List.take_add_one,ht];simp)
     obtain ⟨_,ad,rfl,hbk,p0,p1⟩:=el_cells eE_len (HRE.out.below HB.out) (by omega) ht
     have q0:=p0 _ rfl
     have q1:=p1 1 _ (by omega) rfl
     have hbs:(ad.add (k * 2)).block<wr.heap.size:=by have:=HB.out.size;omega
     obtain ⟨nm,lab⟩:=t
     simp only at q0 q1 htz hlz HLO HTK
     obtain ⟨c,lk⟩:=seen_run (w:=wr.alloc (.cells #[.string nm,.string lab] 83)) (HMM.out.alloc _) nm (by simp only [maxLen];omega)
     rw [HS.out.has nm] at lk
     obtain ⟨b0,hb0⟩:∃ b,b=inB nm ((x.entries.take k).map (·.name)):=⟨_,rfl⟩
     obtain ⟨b1,hb1⟩:∃ b,b=nameB lab:=⟨_,rfl⟩
     obtain ⟨sz,hsz⟩:∃ z,z=nm.size:=⟨_,rfl⟩
     have HN1:=hide_ (fun W=>HNAM.out lab hlz W)
     rw [← hb1] at HN1 HLO
     rw [← hb0] at lk HLO
     have HBB:=hide_ hb
     have hmz5:w1.heap.size<(wr.alloc (.cells #[.string nm,.string lab] 83)).heap.size:=by simp;omega
     have HM5:=hide_ (show seenAt (wr.alloc (.cells #[.string nm,.string lab] 83)) w1.heap.size k D from HMM.out.alloc _)
     have HB5:=hide_ (hb.alloc hbz (.cells #[.string nm,.string lab] 83))
     have hzz:wr.heap.size<(wr.alloc (.cells #[.string nm,.string lab] 83)).heap.size:=by simp
     clear hm ht hb0 hb p0 p1 hb1 hbk
     have hends:∀ h:entOk x k=false,Hid ((tgtsB x && entsB x)=false):=fun h=>hide_ (by rw [show entsB x=false from range_false (k:=k) (by have:=HNE.out;omega) h,Bool.and_false])
     have HENDS:=hide_ hends
     clear hends
     cases b0
     ·by_cases hs1:nm.size<1
      ·have d1:decide (nm.size<1)=true:=decide_eq_true hs1
       have d2:decide ((nm.size:Int)<1)=true:=by simp;omega
       have HEND:=HENDS.out (by rw [HLO.out,d1];rfl)
       clear hs1
       go_wp2
       go_ret
       exact ⟨by rw [HEND.out];rfl,HB1.out.trans (HB5.out.mono HB1.out.size)⟩
      ·have d1:decide (nm.size<1)=false:=decide_eq_false hs1
       have d2:decide ((nm.size:Int)<1)=false:=by simp;omega
       by_cases hs2:32<nm.size
       ·have d3:decide (32<nm.size)=true:=decide_eq_true hs2
        have d4:decide ((32:Int)<(nm.size:Int))=true:=by simp;omega
        have HEND:=HENDS.out (by rw [HLO.out,d1,d3];rfl)
        clear hs1 hs2
        go_wp2
        go_ret
        exact ⟨by rw [HEND.out];rfl,HB1.out.trans (HB5.out.mono HB1.out.size)⟩
       ·have d3:decide (32<nm.size)=false:=decide_eq_false hs2
        have d4:decide ((32:Int)<(nm.size:Int))=false:=by simp;omega
        have HLO2:=hide_ (show entOk x k=b1 by rw [HLO.out,d1,d3];rfl)
        have e0:(wr.alloc (.cells #[.string nm,.string lab] 83)).cell? ⟨wr.heap.size,0,none⟩=some (.string nm):=by simp
        clear hs1 hs2
        go_wp2_with fail
        refine (HN1.out _).mono ?_
        rintro e w9 ⟨rfl,hb9⟩
        have e9:=(hb9.cell (p:=⟨wr.heap.size,0,none⟩) hzz).trans e0
        have HM9:=hide_ (HM5.out.below hb9 hmz5)
        have HB9:=hide_ (HB5.out.trans (hb9.mono HB5.out.size))
        have hs9:=hb9.size
        have hzz9:wr.heap.size<w9.heap.size:=by omega
        clear hb9 lk e0
        cases b1
        ·have HEND:=HENDS.out HLO2.out
         go_wp2
         go_ret
         exact ⟨by rw [HEND.out];rfl,HB1.out.trans (HB9.out.mono HB1.out.size)⟩
        ·obtain ⟨w7,hrun,o7',g7⟩:=seen_put HM9.out nm (by simp only [maxLen];omega) (by simp only [maxLen];omega) (k:Int) (wf_nat (by omega))
         have HO7:=hide_ o7'
         have HG7:=hide_ g7
         clear o7' g7
         go_wp2
         go_roundw
         case rel=>exact ⟨k+1,_,by omega,by go_num,HO7.out,hide_ (by have:=HS.out.put nm (k:Int);rw [← HTK.out] at this;exact this),hide_ (all_next (f:=entOk x) HALL.out HLO2.out),HB9.out.grown HG7.out HB9.out.size (fun j hj=>by cases hj;omega)⟩
         case measure=>simp [intOf];omega
     ·have HEND:=HENDS.out (by rw [HLO.out];rfl)
      go_wp2
      go_ret
      exact ⟨by rw [HEND.out];rfl,HB1.out.trans (HB5.out.mono HB1.out.size)⟩
    ·obtain rfl:k=ne:=by omega
     have HEND:=hide_ (show (tgtsB x && entsB x)=true by rw [HTG.out,show entsB x=true from range_true (fun j hj=>HALL.out j (by rw [HNE.out];exact hj))];rfl)
     clear hm hb
     go_wp2
     go_ret
     exact ⟨by rw [HEND.out];rfl,HB.out⟩
end Go.Proofs.YtikbegmodacopaaGreatDoor
namespace Go.Proofs.YtikbegmodacopaaGreatDoor
open Go.RowKit Go.PlainAid Go.BigFrame
set_option linter.unusedSimpArgs false
set_option linter.unusedVariables false
set_option maxRecDepth 100000
def fixOk1 (x:ObjV) (f:FixV):Bool:=nameB f.name && blankB x f && !withinB x f
def fixBad (f p:FixV):Bool:=decide (f.sec<p.sec) || (decide (f.sec=p.sec) && decide (f.at_≤p.at_)) || (decide (f.sec=p.sec) && decide (f.sec=2) && decide (f.at_ - p.at_<4))
def fixOk (x:ObjV) (k:Nat):Bool :=
 match x.fixes[k]? with
 | none=>true
 | some f=>fixOk1 x f && (match k with
  | 0=>true
  | k+1=>match x.fixes[k]? with
   | none=>true
   | some p=>!fixBad f p)
def fixesB (x:ObjV):Bool:=(List.range x.fixes.length).all (fixOk x)
theorem fixOk_at {x:ObjV} {k:Nat} {f:FixV} (h:x.fixes[k]?=some f) (p:FixV) (hp:0<k→x.fixes[k - 1]?=some p):fixOk x k=(fixOk1 x f && (decide (k=0) || !fixBad f p)):=by
 unfold fixOk
 rw [h]
 cases k with
 | zero=>rfl
 | succ k =>
  have hp':=hp (by omega)
  rw [Nat.add_sub_cancel] at hp'
  dsimp only
  rw [hp']
  simp
theorem blank_data {x:ObjV} {f:FixV} (h:blankB x f=true) (hs:f.sec=2):f.at_+4≤x.data.length:=by
 unfold blankB at h
 rw [if_neg (by omega),if_pos hs,Bool.and_eq_true,decide_eq_true_eq] at h
 exact h.1
set_option maxHeartbeats 8000000 in
theorem fixed_any (x:ObjV) (s:ObjS) (w:World) (hx:ObjOk x) (hB:boundB x=true) (hr:ObjR w w.heap.size x s):Calls Tryz.prog 110 #[.agg (objV x s)] w fun e w'=>e=.returned (.bool (fixesB x))∧Below w.heap.size w w':=by
 have hl:=(boundB_iff.1 hB).2.2.2.2.1
 have hd:=(boundB_iff.1 hB).2.1
 have HRF:=hide_ hr.rf
 have HBLK:=hide_ (fun (f:FixV) (h:0≤f.at_∧f.at_<4294967296) W (hb:Below w.heap.size w W)=>blank_any x s f W hx hB h ((hr.below hb).more hb.size))
 have HWIT:=hide_ (fun (f:FixV) (hf:f.sec=2→f.at_+4<4294967296) (h:0≤f.at_∧f.at_<4294967296) W (hb:Below w.heap.size w W)=>within_any x s f W hx hf h ((hr.below hb).more hb.size))
 obtain ⟨⟨cA,cc⟩,⟨dA,dc⟩,⟨lA,lc⟩,⟨fA,fc⟩,⟨tA,tc⟩,⟨eA,ec⟩⟩:=s
 dsimp only [objV] at HRF HBLK HWIT ⊢
 have HNAM:=hide_ (fun (nm:ByteArray) (h:nm.size≤140737488351232) w=>isName_any nm w h)
 have HOK:=hide_ hx.fixes
 obtain ⟨n,hn⟩:∃ n,n=x.fixes.length:=⟨_,rfl⟩
 rw [← hn] at HRF hl HBLK HWIT ⊢
 have HN:=hide_ hn
 have HD:=hide_ hd
 clear hx hB hr hn hd
 go_enter Tryz.func110,Tryz.ntmps110
 go_wp2
 go_loopw [9] (fun i wr=>∃ k:Nat,k≤n∧i=.int .i64 k∧Hid (∀ j,j<k→fixOk x j=true) ∧
  wr.cell? ⟨w.heap.size,0,none⟩=some (.slice cA x.code.length cc)∧wr.cell? ⟨w.heap.size,1,none⟩=some (.slice dA x.data.length dc)∧wr.cell? ⟨w.heap.size,2,none⟩=some (.int .u32 x.zero)∧wr.cell? ⟨w.heap.size,3,none⟩=some (.int .u32 x.stack)∧wr.cell? ⟨w.heap.size,4,none⟩=some (.slice lA x.labels.length lc)∧wr.cell? ⟨w.heap.size,5,none⟩=some (.slice fA n fc)∧wr.cell? ⟨w.heap.size,6,none⟩=some (.slice tA x.targets.length tc)∧wr.cell? ⟨w.heap.size,7,none⟩=some (.slice eA x.entries.length ec)∧w.heap.size<wr.heap.size∧Below w.heap.size w wr) (fun i _=>n - (intOf i).toNat)
 case atStart=>exact ⟨0,Nat.zero_le _,rfl,hide_ (fun j hj=>absurd hj (by omega)),by simp,by simp,by simp,by simp,by simp,by simp,by simp,by simp,by simp,(Below.refl _ _).alloc (Nat.le_refl _) _⟩
 case round =>
  obtain ⟨k,hk,rfl,HALL,o0,o1,o2,o3,o4,o5,o6,o7,hml,hb⟩:=hrel
  have hbz:=hb.size
  by_cases hlt:k<n
  ·obtain ⟨t,ht⟩:∃ t,x.fixes[k]?=some t:=⟨_,List.getElem?_eq_getElem (by have:=HN.out;omega)⟩
   obtain ⟨hnmz,⟨sec0,sec1⟩,⟨pl0,pl1⟩,_⟩:=HOK.out t (List.mem_of_getElem? ht)
   obtain ⟨p,hp⟩:∃ p,0<k→x.fixes[k - 1]?=some p:=by
    by_cases h0:0<k
    ·exact ⟨x.fixes[k - 1]'(by have:=HN.out;omega),fun _=>List.getElem?_eq_getElem _⟩
    ·exact ⟨t,fun h=>absurd h h0⟩
   have HLO:=hide_ (fixOk_at ht p hp)
   have HPB:=hide_ (fun h:0<k=>HOK.out p (List.mem_of_getElem? (hp h)))
   have HP:=hide_ hp
   obtain ⟨_,ad,rfl,hbk,p0,p1⟩:=el_cells fE_len (HRF.out.below hb) (by omega) ht
   have q0:=p0 _ rfl
   have q1:=p1 1 _ (by omega) rfl
   have q2:=p1 2 _ (by omega) rfl
   have q3:=p1 3 _ (by omega) rfl
   have hbs:(ad.add (k * 4)).block<wr.heap.size:=by omega
   have HB1:=hide_ (fun W hb=>HBLK.out t ⟨pl0,pl1⟩ W hb)
   have HW1:=hide_ (fun hf W hb=>HWIT.out t hf ⟨pl0,pl1⟩ W hb)
   have HN1:=hide_ (fun W=>HNAM.out t.name hnmz W)
   have HDT:=hide_ (fun (h1:blankB x t=true) (h2:t.sec=2)=>show t.at_+4<4294967296 by have:=blank_data h1 h2;have:=HD.out;omega)
   obtain ⟨b1,hb1⟩:∃ b,b=nameB t.name:=⟨_,rfl⟩
   obtain ⟨b2,hb2⟩:∃ b,b=blankB x t:=⟨_,rfl⟩
   obtain ⟨b3,hb3⟩:∃ b,b=withinB x t:=⟨_,rfl⟩
   unfold fixOk1 at HLO
   rw [← hb1] at HN1 HLO
   rw [← hb2] at HB1 HLO HDT
   rw [← hb3] at HW1 HLO
   have HB:=hide_ hb
   clear p0 p1 ht hp hbk hb1 hb2 hb3 hb
   obtain ⟨sec,fat,nm,add⟩:=t
   obtain ⟨psec,pat,pnm,padd⟩:=p
   simp only [fixBad] at q0 q1 q2 q3 hnmz sec0 sec1 pl0 pl1 HLO HB1 HW1 HN1 HDT HP HPB
   have f0:(wr.alloc (.cells #[.int .u8 sec,.int .u32 fat,.string nm,.int .u32 add] 81)).cell? ⟨w.heap.size,0,none⟩=some (.slice cA x.code.length cc):=(World.cell?_alloc_lt wr _ ⟨w.heap.size,0,none⟩ (show w.heap.size<wr.heap.size by omega)).trans o0
   have f1:(wr.alloc (.cells #[.int .u8 sec,.int .u32 fat,.string nm,.int .u32 add] 81)).cell? ⟨w.heap.size,1,none⟩=some (.slice dA x.data.length dc):=(World.cell?_alloc_lt wr _ ⟨w.heap.size,1,none⟩ (show w.heap.size<wr.heap.size by omega)).trans o1
   have f2:(wr.alloc (.cells #[.int .u8 sec,.int .u32 fat,.string nm,.int .u32 add] 81)).cell? ⟨w.heap.size,2,none⟩=some (.int .u32 x.zero):=(World.cell?_alloc_lt wr _ ⟨w.heap.size,2,none⟩ (show w.heap.size<wr.heap.size by omega)).trans o2
   have f3:(wr.alloc (.cells #[.int .u8 sec,.int .u32 fat,.string nm,.int .u32 add] 81)).cell? ⟨w.heap.size,3,none⟩=some (.int .u32 x.stack):=(World.cell?_alloc_lt wr _ ⟨w.heap.size,3,none⟩ (show w.heap.size<wr.heap.size by omega)).trans o3
   have f4:(wr.alloc (.cells #[.int .u8 sec,.int .u32 fat,.string nm,.int .u32 add] 81)).cell? ⟨w.heap.size,4,none⟩=some (.slice lA x.labels.length lc):=(World.cell?_alloc_lt wr _ ⟨w.heap.size,4,none⟩ (show w.heap.size<wr.heap.size by omega)).trans o4
   have f5:(wr.alloc (.cells #[.int .u8 sec,.int .u32 fat,.string nm,.int .u32 add] 81)).cell? ⟨w.heap.size,5,none⟩=some (.slice (some ad) n fc):=(World.cell?_alloc_lt wr _ ⟨w.heap.size,5,none⟩ (show w.heap.size<wr.heap.size by omega)).trans o5
   have f6:(wr.alloc (.cells #[.int .u8 sec,.int .u32 fat,.string nm,.int .u32 add] 81)).cell? ⟨w.heap.size,6,none⟩=some (.slice tA x.targets.length tc):=(World.cell?_alloc_lt wr _ ⟨w.heap.size,6,none⟩ (show w.heap.size<wr.heap.size by omega)).trans o6
   have f7:(wr.alloc (.cells #[.int .u8 sec,.int .u32 fat,.string nm,.int .u32 add] 81)).cell? ⟨w.heap.size,7,none⟩=some (.slice eA x.entries.length ec):=(World.cell?_alloc_lt wr _ ⟨w.heap.size,7,none⟩ (show w.heap.size<wr.heap.size by omega)).trans o7
   have e0:(wr.alloc (.cells #[.int .u8 sec,.int .u32 fat,.string nm,.int .u32 add] 81)).cell? ⟨wr.heap.size,0,none⟩=some (.int .u8 sec):=by simp
   have e1:(wr.alloc (.cells #[.int .u8 sec,.int .u32 fat,.string nm,.int .u32 add] 81)).cell? ⟨wr.heap.size,1,none⟩=some (.int .u32 fat):=by simp
   have e2:(wr.alloc (.cells #[.int .u8 sec,.int .u32 fat,.string nm,.int .u32 add] 81)).cell? ⟨wr.heap.size,2,none⟩=some (.string nm):=by simp
   have e3:(wr.alloc (.cells #[.int .u8 sec,.int .u32 fat,.string nm,.int .u32 add] 81)).cell? ⟨wr.heap.size,3,none⟩=some (.int .u32 add):=by simp
   have hb5:=HB.out.alloc hbz (.cells #[.int .u8 sec,.int .u32 fat,.string nm,.int .u32 add] 81)
   have hz5:wr.heap.size<(wr.alloc (.cells #[.int .u8 sec,.int .u32 fat,.string nm,.int .u32 add] 81)).heap.size:=by simp
   have hwz:w.heap.size<(wr.alloc (.cells #[.int .u8 sec,.int .u32 fat,.string nm,.int .u32 add] 81)).heap.size:=by simp;omega
   have HB5:=hide_ hb5
   clear hb5 o0 o1 o2 o3 o4 o5 o6 o7
   have HEND:=hide_ (fun (h:fixOk x k=false)=>hide_ (show fixesB x=false from range_false (k:=k) (by have:=HN.out;omega) h))
   go_wp2_with fail
   clear q0 q1 q2 q3 hbs hml
   generalize (wr.alloc (.cells #[.int .u8 sec,.int .u32 fat,.string nm,.int .u32 add] 81))=w5 at *
   generalize wr.heap.size=g5 at *
   refine (HN1.out _).mono ?_
   rintro e w6 ⟨rfl,hb6⟩
   have f0:=(hb6.cell (p:=⟨w.heap.size,0,none⟩) hwz).trans f0
   have f1:=(hb6.cell (p:=⟨w.heap.size,1,none⟩) hwz).trans f1
   have f2:=(hb6.cell (p:=⟨w.heap.size,2,none⟩) hwz).trans f2
   have f3:=(hb6.cell (p:=⟨w.heap.size,3,none⟩) hwz).trans f3
   have f4:=(hb6.cell (p:=⟨w.heap.size,4,none⟩) hwz).trans f4
   have f5:=(hb6.cell (p:=⟨w.heap.size,5,none⟩) hwz).trans f5
   have f6:=(hb6.cell (p:=⟨w.heap.size,6,none⟩) hwz).trans f6
   have f7:=(hb6.cell (p:=⟨w.heap.size,7,none⟩) hwz).trans f7
   have e0:=(hb6.cell (p:=⟨g5,0,none⟩) hz5).trans e0
   have e1:=(hb6.cell (p:=⟨g5,1,none⟩) hz5).trans e1
   have e2:=(hb6.cell (p:=⟨g5,2,none⟩) hz5).trans e2
   have e3:=(hb6.cell (p:=⟨g5,3,none⟩) hz5).trans e3
   have HB6:=hide_ (HB5.out.trans (hb6.mono HB5.out.size))
   have hs6:=hb6.size
   have hz6:g5<w6.heap.size:=by omega
   have hwz6:w.heap.size<w6.heap.size:=by omega
   clear hb6 hz5 hwz hs6
   cases b1
   ·have HE:=HEND.out (by rw [HLO.out];rfl)
    go_wp2
    go_ret
    exact ⟨by rw [HE.out];rfl,HB6.out⟩
   ·go_wp2_with fail
    refine (HB1.out _ HB6.out).mono ?_
    rintro e w7 ⟨rfl,hb7⟩
    have hz5:=hz6
    have hwz:=hwz6
    have f0:=(hb7.cell (p:=⟨w.heap.size,0,none⟩) hwz).trans f0
    have f1:=(hb7.cell (p:=⟨w.heap.size,1,none⟩) hwz).trans f1
    have f2:=(hb7.cell (p:=⟨w.heap.size,2,none⟩) hwz).trans f2
    have f3:=(hb7.cell (p:=⟨w.heap.size,3,none⟩) hwz).trans f3
    have f4:=(hb7.cell (p:=⟨w.heap.size,4,none⟩) hwz).trans f4
    have f5:=(hb7.cell (p:=⟨w.heap.size,5,none⟩) hwz).trans f5
    have f6:=(hb7.cell (p:=⟨w.heap.size,6,none⟩) hwz).trans f6
    have f7:=(hb7.cell (p:=⟨w.heap.size,7,none⟩) hwz).trans f7
    have e0:=(hb7.cell (p:=⟨g5,0,none⟩) hz5).trans e0
    have e1:=(hb7.cell (p:=⟨g5,1,none⟩) hz5).trans e1
    have e2:=(hb7.cell (p:=⟨g5,2,none⟩) hz5).trans e2
    have e3:=(hb7.cell (p:=⟨g5,3,none⟩) hz5).trans e3
    have HB7:=hide_ (HB6.out.trans (hb7.mono HB6.out.size))
    have hs7:=hb7.size
    have hz7:g5<w7.heap.size:=by omega
    have hwz7:w.heap.size<w7.heap.size:=by omega
    clear hb7 hz5 hwz hs7 hz6 hwz6
    cases b2
    ·have HE:=HEND.out (by rw [HLO.out];rfl)
     go_wp2
     go_ret
     exact ⟨by rw [HE.out];rfl,HB7.out⟩
    ·go_wp2_with fail
     refine (HW1.out (HDT.out (by trivial)) _ HB7.out).mono ?_
     rintro e w8 ⟨rfl,hb8⟩
     have hz5:=hz7
     have hwz:=hwz7
     have f0:=(hb8.cell (p:=⟨w.heap.size,0,none⟩) hwz).trans f0
     have f1:=(hb8.cell (p:=⟨w.heap.size,1,none⟩) hwz).trans f1
     have f2:=(hb8.cell (p:=⟨w.heap.size,2,none⟩) hwz).trans f2
     have f3:=(hb8.cell (p:=⟨w.heap.size,3,none⟩) hwz).trans f3
     have f4:=(hb8.cell (p:=⟨w.heap.size,4,none⟩) hwz).trans f4
     have f5:=(hb8.cell (p:=⟨w.heap.size,5,none⟩) hwz).trans f5
     have f6:=(hb8.cell (p:=⟨w.heap.size,6,none⟩) hwz).trans f6
     have f7:=(hb8.cell (p:=⟨w.heap.size,7,none⟩) hwz).trans f7
     have e0:=(hb8.cell (p:=⟨g5,0,none⟩) hz5).trans e0
     have e1:=(hb8.cell (p:=⟨g5,1,none⟩) hz5).trans e1
     have e2:=(hb8.cell (p:=⟨g5,2,none⟩) hz5).trans e2
     have e3:=(hb8.cell (p:=⟨g5,3,none⟩) hz5).trans e3
     have HB8:=hide_ (HB7.out.trans (hb8.mono HB7.out.size))
     have HRF8:=hide_ (HRF.out.below HB8.out)
     have hs8:=hb8.size
     have hz8:g5<w8.heap.size:=by omega
     have hwz8:w.heap.size<w8.heap.size:=by omega
     clear hb8 hz5 hwz hs8 hz7 hwz7
     cases b3
     ·have HLO2:=hide_ (show fixOk x k=(decide (k=0) || !(decide (sec<psec) || (decide (sec=psec) && decide (fat≤pat)) || (decide (sec=psec) && decide (sec=2) && decide (fat - pat<4)))) by rw [HLO.out];rfl)
      by_cases k0:k=0
      ·subst k0
       have HTR:=hide_ (show fixOk x 0=true by rw [HLO2.out];rfl)
       go_wp2
       go_roundw
       case rel=>exact ⟨1,by omega,by first | exact rfl | go_num,hide_ (all_next (f:=fixOk x) (fun j hj=>absurd hj (by omega)) HTR.out),f0,f1,f2,f3,f4,f5,f6,f7,hwz8,HB8.out⟩
       case measure=>simp [intOf];omega
      ·obtain ⟨_,ad2,hA2,hbk2,r0,r1⟩:=el_cells fE_len HRF8.out (by omega) (HP.out (by omega))
       obtain ⟨_,⟨ps0,ps1⟩,⟨pp0,pp1⟩,_⟩:=HPB.out (by omega)
       obtain rfl:ad=ad2:=by injection hA2
       have r0:=r0 _ rfl
       have r2:=r1 2 _ (by omega) rfl
       have r3:=r1 3 _ (by omega) rfl
       have r1:=r1 1 _ (by omega) rfl
       have hbs2:(ad.add ((k - 1) * 4)).block<w8.heap.size:=by omega
       have s1:IntKind.i64.wrap ((k:Int) - 1)=(k:Int) - 1:=IntWalk.i64_in _ (by omega)
       have s2:(0:Int)≤(k:Int) - 1:=by omega
       have s3:((k:Int) - 1).toNat=k - 1:=by omega
       have s4:(k:Int) - 1<(n:Int):=by omega
       have s5:((k:Int) == 0)=false:=by simpa using k0
       have HB9:=hide_ (HB8.out.alloc HB8.out.size (.cells #[.int .u8 psec,.int .u32 pat,.string pnm,.int .u32 padd] 81))
       clear hA2 hbk2
       have hways:Hid ((decide (sec<psec)=true∧fixOk x k=false)∨(decide (sec<psec)=false∧(sec == psec)=false∧fixOk x k=true)∨(decide (sec<psec)=false∧(sec == psec)=true∧decide (fat≤pat)=true∧fixOk x k=false) ∨
         (decide (sec<psec)=false∧(sec == psec)=true∧decide (fat≤pat)=false∧(sec == 2)=false∧fixOk x k=true) ∨
         (decide (sec<psec)=false∧(sec == psec)=true∧decide (fat≤pat)=false∧(sec == 2)=true∧decide (fat - pat<4)=true∧fixOk x k=false) ∨
         (decide (sec<psec)=false∧(sec == psec)=true∧decide (fat≤pat)=false∧(sec == 2)=true∧decide (fat - pat<4)=false∧fixOk x k=true)):=hide_ (by
        rw [HLO2.out,decide_eq_false k0,Bool.false_or]
        have e1:(sec == psec)=decide (sec=psec):=by by_cases h:sec=psec <;> simp [h]
        have e2:(sec == 2)=decide (sec=2):=by by_cases h:sec=2 <;> simp [h]
        rw [e1,e2]
        generalize decide (sec<psec)=a1
        generalize decide (sec=psec)=a2
        generalize decide (fat≤pat)=a3
        generalize decide (sec=2)=a4
        generalize decide (fat - pat<4)=a5
        cases a1 <;> cases a2 <;> cases a3 <;> cases a4 <;> cases a5 <;> simp)
       rcases hways.out with ⟨d1,hE⟩ | ⟨d1,d2,hE⟩ | ⟨d1,d2,d3,hE⟩ | ⟨d1,d2,d3,d4,hE⟩ | ⟨d1,d2,d3,d4,d5,hE⟩ | ⟨d1,d2,d3,d4,d5,hE⟩
       ·have HE:=HEND.out hE
        clear hE
        go_wp2
        go_ret
        exact ⟨by rw [HE.out];rfl,HB9.out⟩
       ·have HTR:=hide_ hE
        clear hE
        go_wp2
        go_roundw
        case rel=>exact ⟨k+1,by omega,by go_num,hide_ (all_next (f:=fixOk x) HALL.out HTR.out),(World.cell?_alloc_lt w8 _ ⟨w.heap.size,0,none⟩ hwz8).trans f0,(World.cell?_alloc_lt w8 _ ⟨w.heap.size,1,none⟩ hwz8).trans f1,(World.cell?_alloc_lt w8 _ ⟨w.heap.size,2,none⟩ hwz8).trans f2,(World.cell?_alloc_lt w8 _ ⟨w.heap.size,3,none⟩ hwz8).trans f3,(World.cell?_alloc_lt w8 _ ⟨w.heap.size,4,none⟩ hwz8).trans f4,(World.cell?_alloc_lt w8 _ ⟨w.heap.size,5,none⟩ hwz8).trans f5,(World.cell?_alloc_lt w8 _ ⟨w.heap.size,6,none⟩ hwz8).trans f6,(World.cell?_alloc_lt w8 _ ⟨w.heap.size,7,none⟩ hwz8).trans f7,by simp;omega,HB9.out⟩
        case measure=>simp [intOf];omega
       ·have HE:=HEND.out hE
        clear hE
        go_wp2
        go_ret
        exact ⟨by rw [HE.out];rfl,HB9.out⟩
       ·have HTR:=hide_ hE
        clear hE
        go_wp2
        go_roundw
        case rel=>exact ⟨k+1,by omega,by go_num,hide_ (all_next (f:=fixOk x) HALL.out HTR.out),(World.cell?_alloc_lt w8 _ ⟨w.heap.size,0,none⟩ hwz8).trans f0,(World.cell?_alloc_lt w8 _ ⟨w.heap.size,1,none⟩ hwz8).trans f1,(World.cell?_alloc_lt w8 _ ⟨w.heap.size,2,none⟩ hwz8).trans f2,(World.cell?_alloc_lt w8 _ ⟨w.heap.size,3,none⟩ hwz8).trans f3,(World.cell?_alloc_lt w8 _ ⟨w.heap.size,4,none⟩ hwz8).trans f4,(World.cell?_alloc_lt w8 _ ⟨w.heap.size,5,none⟩ hwz8).trans f5,(World.cell?_alloc_lt w8 _ ⟨w.heap.size,6,none⟩ hwz8).trans f6,(World.cell?_alloc_lt w8 _ ⟨w.heap.size,7,none⟩ hwz8).trans f7,by simp;omega,HB9.out⟩
        case measure=>simp [intOf];omega
       ·have HE:=HEND.out hE
        have hw1:(fat - pat) % 4294967296=fat - pat:=by simp at d3;omega
        clear hE
        go_wp2
        go_ret
        exact ⟨by rw [HE.out];rfl,HB9.out⟩
       ·have HTR:=hide_ hE
        have hw1:(fat - pat) % 4294967296=fat - pat:=by simp at d3;omega
        clear hE
        go_wp2
        go_roundw
        case rel=>exact ⟨k+1,by omega,by go_num,hide_ (all_next (f:=fixOk x) HALL.out HTR.out),(World.cell?_alloc_lt w8 _ ⟨w.heap.size,0,none⟩ hwz8).trans f0,(World.cell?_alloc_lt w8 _ ⟨w.heap.size,1,none⟩ hwz8).trans f1,(World.cell?_alloc_lt w8 _ ⟨w.heap.size,2,none⟩ hwz8).trans f2,(World.cell?_alloc_lt w8 _ ⟨w.heap.size,3,none⟩ hwz8).trans f3,(World.cell?_alloc_lt w8 _ ⟨w.heap.size,4,none⟩ hwz8).trans f4,(World.cell?_alloc_lt w8 _ ⟨w.heap.size,5,none⟩ hwz8).trans f5,(World.cell?_alloc_lt w8 _ ⟨w.heap.size,6,none⟩ hwz8).trans f6,(World.cell?_alloc_lt w8 _ ⟨w.heap.size,7,none⟩ hwz8).trans f7,by simp;omega,HB9.out⟩
        case measure=>simp [intOf];omega
     ·have HE:=HEND.out (by rw [HLO.out];rfl)
      go_wp2
      go_ret
      exact ⟨by rw [HE.out];rfl,HB8.out⟩
  ·obtain rfl:k=n:=by omega
   have HB:=hide_ hb
   have HEND:=hide_ (show fixesB x=true from range_true (fun j hj=>HALL.out j (by rw [HN.out];exact hj)))
   clear hb hbz
   go_wp2
   go_ret
   exact ⟨by rw [HEND.out];rfl,HB.out⟩
end Go.Proofs.YtikbegmodacopaaGreatDoor
