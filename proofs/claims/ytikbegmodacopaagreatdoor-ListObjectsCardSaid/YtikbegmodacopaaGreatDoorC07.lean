/-
  Joined and packed by program.
-/
import Derived.Test.YtikbegmodacopaaGreatDoorC06
import Derived.Test.YtikbegmodacopaaGreatDoorC03
import Derived.Deep.CutRange
import Derived.Test.YtikbegmodacopaaGreatDoorC05
import Derived.Test.YtikbegmodacopaaGreatDoorC04
import Derived.Deep.RegionHeld3
import Derived.Laws.StructEq
import Derived.Test.YtikbegmodacopaaGreatDoorProg
import Derived.Test.YtikbegmodacopaaGreatDoorC01
import Derived.Laws.Tables
import Derived.Laws.ResultCell
import Derived.PlainAid
import Derived.Deep.Cut
namespace Go.Proofs.YtikbegmodacopaaGreatDoor
open Go.RowKit Go.PlainAid
set_option linter.unusedVariables false
set_option maxRecDepth 100000
end Go.Proofs.YtikbegmodacopaaGreatDoor
namespace Go.Proofs.YtikbegmodacopaaGreatDoor
open Go.RowKit Go.PlainAid
set_option linter.unusedVariables false
set_option maxRecDepth 100000
end Go.Proofs.YtikbegmodacopaaGreatDoor
namespace Go.Proofs.YtikbegmodacopaaGreatDoor
open Go.RowKit Go.PlainAid Go.BigFrame
set_option linter.unusedVariables false
set_option maxRecDepth 100000
def Drew (w w':World):Prop:=∃ k,w'=w.drewN k
theorem Drew.refl (w:World):Drew w w:=⟨0,rfl⟩
theorem Drew.more {w w':World} (h:Drew w w') (k:Nat):Drew w (w'.drewN k):=by
 obtain ⟨n,rfl⟩:=h
 exact ⟨n+k,World.drewN_drewN _ _ _⟩
theorem Drew.trans {a b c:World} (h:Drew a b) (k:Drew b c):Drew a c:=by
 obtain ⟨n,rfl⟩:=k
 exact h.more n
theorem Drew.cell {w w':World} (h:Drew w w') (p:Addr):w'.cell? p=w.cell? p:=by obtain ⟨n,rfl⟩:=h;rfl
theorem Drew.size {w w':World} (h:Drew w w'):w'.heap.size=w.heap.size:=by obtain ⟨n,rfl⟩:=h;rfl
theorem Drew.below {w w':World} (h:Drew w w') (B:Nat):Below B w w':=by obtain ⟨n,rfl⟩:=h;exact ⟨rfl,rfl,rfl,Nat.le_refl _,fun _ _=>rfl⟩
theorem reads_strs {w:World} {B n:Nat} {A:Option Addr} {sg:List ByteArray} (hr:Reads w B 1 A n (sg.map Value.string)) (hn:0<n) :
  ∃ b o,A=some ⟨b,o,none⟩∧b<B∧∀ j g,sg[j]?=some g→w.cell? ⟨b,o+j,none⟩=some (.string g):=by
 obtain ⟨⟨b,o,sp⟩,rfl,hbk,hcl⟩:=hr.2 hn
 have hl:sg.length=n:=by have:=hr.1;simpa using this
 have hsp:sp=none:=by
  cases hs0:sg with
  | nil=>rw [hs0] at hl;simp at hl;omega
  | cons g0 r =>
   have h0:=hcl 0 (.string g0) (by rw [hs0];rfl)
   have:=World.cell?_spot h0
   simpa [Addr.add] using this
 subst hsp
 refine ⟨b,o,rfl,hbk,fun j g hg=>?_⟩
 have:=hcl j (.string g) (by rw [List.getElem?_map,hg];rfl)
 rw [← this]
 congr 1
 unfold Addr.add
 split <;> simp_all
end Go.Proofs.YtikbegmodacopaaGreatDoor
namespace Go.Proofs.YtikbegmodacopaaGreatDoor
open Go.RowKit Go.PlainAid Go.Shelf
end Go.Proofs.YtikbegmodacopaaGreatDoor
namespace Go.Proofs.YtikbegmodacopaaGreatDoor
open Go.RowKit Go.PlainAid Go.BigFrame
set_option linter.unusedVariables false
set_option maxRecDepth 100000
end Go.Proofs.YtikbegmodacopaaGreatDoor
namespace Go.Proofs.YtikbegmodacopaaGreatDoor
open Go.RowKit Go.PlainAid Go.BigFrame
set_option linter.unusedVariables false
set_option maxRecDepth 100000
end Go.Proofs.YtikbegmodacopaaGreatDoor
namespace Go.Proofs.YtikbegmodacopaaGreatDoor
set_option maxRecDepth 100000
open Go.RowKit Go.PlainAid Go.BigFrame
set_option linter.unusedSimpArgs false
set_option linter.unusedVariables false
theorem str_beq (x y:ByteArray):(x.toList == y.toList)=decide (x=y):=by
 rw [ByteArray.toList_eq,ByteArray.toList_eq]
 by_cases h:x=y
 ·subst h;simp
 ·rw [decide_eq_false h]
  apply Bool.eq_false_iff.2
  intro h2
  exact h (ByteArray.ext (Array.toList_inj.1 (by simpa using h2)))
def nameL (s:ByteArray):List Tk→Bool
 | [(k,a,b)]=>decide (k=1) && decide (s.extract a b=s)
 | _=>false
def nameB (s:ByteArray):Bool:=decide ((toksN s []).2.2=0) && nameL s ((toksN s []).1.getD [])
theorem nameL_len {s:ByteArray} {l:List Tk} (h:l.length≠1):nameL s l=false:=by
 match l,h with
 | [],_=>rfl
 | [_],h=>exact absurd rfl h
 | _ :: _ :: _,_=>rfl
theorem tk1_cells {w:World} {B:Nat} {v:Value} {s:ByteArray} {K:Int} {a b:Nat} (h:w.ownsRow B 197 3 v 1 (tkCells s [(K,a,b)])):∃ g c,v=.slice (some ⟨g,0,none⟩) 1 c∧w.cell? ⟨g,0,none⟩=some (.int .u8 K)∧w.cell? ⟨g,2,none⟩=some (.string (s.extract a b))∧g<w.heap.size:=by
 obtain ⟨g,c,hv,_,hlt⟩:=h.form (by omega)
 subst hv
 exact ⟨g,c,rfl,h.cells (g:=g) rfl 0 _ rfl,h.cells (g:=g) rfl 2 _ rfl,hlt⟩
set_option maxHeartbeats 2000000 in
theorem isName_any (s:ByteArray) (w:World) (hz:s.size≤140737488351232):Calls Tryz.prog 152 #[.string s] w fun e w'=>e=.returned (.bool (nameB s))∧Below w.heap.size w w':=by
 have HT:=hide_ (tokens_any s none 0 0 0 [] w hz (by omega) (Nat.le_refl _) Reads.none_ (Nat.zero_le _))
 unfold nameB
 obtain ⟨l,hl⟩:∃ l,l=(toksN s []).1.getD []:=⟨_,rfl⟩
 obtain ⟨at_,hat⟩:∃ a,a=(toksN s []).2.1:=⟨_,rfl⟩
 obtain ⟨er,her⟩:∃ a,a=(toksN s []).2.2:=⟨_,rfl⟩
 unfold ToksIs at HT
 rw [← hl,← hat,← her] at HT
 rw [← hl,← her]
 clear hl hat her hz
 by_cases he:er=0
 ·subst he
  by_cases hn:l.length=1
  ·obtain ⟨⟨K,a,b⟩,rfl⟩:∃ t,l=[t]:=List.length_eq_one_iff.1 hn
   clear hn
   rw [show (decide ((0:Int)=0) && nameL s [(K,a,b)])=(decide (K=1) && decide (s.extract a b=s)) by simp [nameL]]
   obtain ⟨x,hx⟩:∃ x,x=s.extract a b:=⟨_,rfl⟩
   have HX:=hide_ hx
   rw [← hx]
   clear hx
   go_enter Tryz.func152,Tryz.ntmps152
   go_wp2_with fail
   refine HT.out.mono ?_
   rintro e w1 ⟨v,rfl,hO,hb⟩
   obtain ⟨g,c,rfl,c0,c2,hg⟩:=tk1_cells hO
   rw [← HX.out] at c2
   have HB:=hide_ hb
   clear hb hO
   by_cases hk:K=1
   ·subst hk
    go_wp2
    go_ret
    exact ⟨by simp [str_beq],HB.out⟩
   ·have hkb:(K == 1)=false:=by simpa using hk
    go_wp2
    go_ret
    exact ⟨by simp [hk],HB.out⟩
  ·rw [nameL_len hn,Bool.and_false]
   have hnb:(((l.length:Nat):Int) == 1)=false:=by simp;omega
   go_enter Tryz.func152,Tryz.ntmps152
   go_wp2_with fail
   refine HT.out.mono ?_
   rintro e w1 ⟨v,rfl,hO,hb⟩
   obtain ⟨A,c,rfl,_,_⟩:=ownsRow_slice hO
   have HB:=hide_ hb
   clear hb hO
   have hnb2:(l.length == 1)=false:=by simpa using hn
   go_wp2
   go_ret
   exact ⟨rfl,HB.out⟩
 ·rw [decide_eq_false he,Bool.false_and]
  have heb:(er == 0)=false:=by simpa using he
  go_enter Tryz.func152,Tryz.ntmps152
  go_wp2_with fail
  refine HT.out.mono ?_
  rintro e w1 ⟨v,rfl,hO,hb⟩
  have HB:=hide_ hb
  clear hb hO
  go_wp2
  go_ret
  exact ⟨rfl,HB.out⟩
end Go.Proofs.YtikbegmodacopaaGreatDoor
namespace Go.Proofs.YtikbegmodacopaaGreatDoor
open Go.RowKit Go.PlainAid Go.BigFrame
set_option linter.unusedVariables false
set_option maxRecDepth 100000
def mkS (k i:Int):ByteArray:=strOfNums [35,k % 256,k / 256 % 256,i % 256,i / 256 % 256]
def marksS (n:Nat):List ByteArray:=(List.range n).map fun i=>mkS 0 (i:Nat)
theorem marksS_len (n:Nat):(marksS n).length=n:=by simp [marksS]
def strV (l:List ByteArray):List Value:=l.map Value.string
theorem str_info:(Tryz.prog.info? 9).map (fun i=>(i.zero,i.size,i.bytes))=some (some (.string ⟨#[]⟩),1,16):=by kernel_rfl
end Go.Proofs.YtikbegmodacopaaGreatDoor
namespace Go.Proofs.YtikbegmodacopaaGreatDoor
set_option maxRecDepth 100000
open Go.RowKit Go.PlainAid Go.BigFrame
set_option linter.unusedSimpArgs false
set_option linter.unusedVariables false
structure LabV where
 name:ByteArray
 sec:Int
 at_:Int
 opn:Bool
deriving DecidableEq
structure FixV where
 sec:Int
 at_:Int
 name:ByteArray
 add:Int
deriving DecidableEq
structure EntV where
 name:ByteArray
 lab:ByteArray
deriving DecidableEq
structure ObjV where
 code:List (Int × Int)
 data:List Int
 zero:Int
 stack:Int
 labels:List LabV
 fixes:List FixV
 targets:List ByteArray
 entries:List EntV
def cE (t:Int × Int):List Value:=[.int .u8 t.1,.int .u32 t.2]
def lE (t:LabV):List Value:=[.string t.name,.int .u8 t.sec,.int .u32 t.at_,.bool t.opn]
def fE (t:FixV):List Value:=[.int .u8 t.sec,.int .u32 t.at_,.string t.name,.int .u32 t.add]
def eE (t:EntV):List Value:=[.string t.name,.string t.lab]
section
variable {α:Type} {enc:α→List Value} {K:Nat}
theorem enc_len (hK:∀ a,(enc a).length=K) (l:List α):(l.flatMap enc).length=l.length * K:=by
 induction l with
 | nil=>simp
 | cons a l ih=>rw [List.flatMap_cons,List.length_append,ih,hK,List.length_cons,Nat.succ_mul,Nat.add_comm]
theorem enc_get (hK:∀ a,(enc a).length=K):∀ (l:List α) (k:Nat) (a:α),l[k]?=some a→∀ j u,(enc a)[j]?=some u→(l.flatMap enc)[k * K+j]?=some u
 | [],_,_,h,_,_,_=>by simp at h
 | b :: l,0,a,h,j,u,hu=>by
  have e:b=a:=by simpa using h
  subst e
  rw [List.flatMap_cons,Nat.zero_mul,Nat.zero_add,List.getElem?_append_left (List.getElem?_eq_some_iff.1 hu).1]
  exact hu
 | b :: l,k+1,a,h,j,u,hu=>by
  have e:(k+1) * K+j - (enc b).length=k * K+j:=by rw [hK,Nat.succ_mul];omega
  rw [List.flatMap_cons,List.getElem?_append_right (by rw [hK,Nat.succ_mul];omega),e]
  exact enc_get hK l k a (by simpa using h) j u hu
theorem el_cells (hK:∀ a,(enc a).length=K) {W:World} {B n:Nat} {A:Option Addr} {l:List α} (hr:Reads W B K A n (l.flatMap enc)) (hp:0<K) {k:Nat} {a:α} (h:l[k]?=some a) :
  k<n∧∃ ad,A=some ad∧(ad.add (k * K)).block<B∧(∀ u,(enc a)[0]?=some u→W.cell? (ad.add (k * K))=some u)∧∀ j u,0<j→(enc a)[j]?=some u→W.cell? ⟨(ad.add (k * K)).block,(ad.add (k * K)).off+j,none⟩=some u:=by
 have hk:k<l.length:=(List.getElem?_eq_some_iff.1 h).1
 have hn:l.length=n:=by
  have:=hr.1
  rw [enc_len hK] at this
  exact Nat.eq_of_mul_eq_mul_right hp this
 obtain ⟨ad,e,hb,hc⟩:=hr.2 (by omega)
 refine ⟨by omega,ad,e,by rw [block_of_add];exact hb,fun u hu=>?_,fun j u hj hu=>?_⟩
 ·have:=hc _ u (enc_get hK l k a h 0 u hu)
  simpa using this
 ·have:=hc _ u (enc_get hK l k a h j u hu)
  rw [← add_of_add] at this
  have key:(ad.add (k * K)).add j=⟨(ad.add (k * K)).block,(ad.add (k * K)).off+j,none⟩:=by
   generalize ad.add (k * K)=p
   unfold Addr.add
   rw [if_neg (by omega)]
  rw [key] at this
  exact this
end
structure SL where
 A:Option Addr
 c:Nat
structure ObjS where
 c:SL
 d:SL
 l:SL
 f:SL
 t:SL
 e:SL
def objV (x:ObjV) (s:ObjS):Array Value:=#[.slice s.c.A x.code.length s.c.c,.slice s.d.A x.data.length s.d.c,.int .u32 x.zero,.int .u32 x.stack,.slice s.l.A x.labels.length s.l.c,.slice s.f.A x.fixes.length s.f.c,.slice s.t.A x.targets.length s.t.c,.slice s.e.A x.entries.length s.e.c]
structure ObjR (W:World) (B:Nat) (x:ObjV) (s:ObjS):Prop where
 rc:Reads W B 2 s.c.A x.code.length (x.code.flatMap cE)
 rd:Reads W B 1 s.d.A x.data.length (u8s x.data)
 rl:Reads W B 4 s.l.A x.labels.length (x.labels.flatMap lE)
 rf:Reads W B 4 s.f.A x.fixes.length (x.fixes.flatMap fE)
 rt:Reads W B 1 s.t.A x.targets.length (strV x.targets)
 re:Reads W B 2 s.e.A x.entries.length (x.entries.flatMap eE)
 caps:x.code.length≤s.c.c∧x.data.length≤s.d.c∧x.labels.length≤s.l.c∧x.fixes.length≤s.f.c∧x.targets.length≤s.t.c∧x.entries.length≤s.e.c
structure ObjOk (x:ObjV):Prop where
 code:∀ t ∈ x.code,(0≤t.1∧t.1≤255)∧0≤t.2∧t.2<4294967296
 data:∀ b ∈ x.data,0≤b∧b≤255
 zero:0≤x.zero∧x.zero<4294967296
 stack:0≤x.stack∧x.stack<4294967296
 labels:∀ t ∈ x.labels,t.name.size≤140737488351232∧(0≤t.sec∧t.sec≤255)∧0≤t.at_∧t.at_<4294967296
 fixes:∀ t ∈ x.fixes,t.name.size≤140737488351232∧(0≤t.sec∧t.sec≤255)∧(0≤t.at_∧t.at_<4294967296)∧0≤t.add∧t.add<4294967296
 targets:∀ t ∈ x.targets,t.size≤140737488351232
 entries:∀ t ∈ x.entries,t.name.size≤140737488351232∧t.lab.size≤140737488351232
 lens:x.code.length≤140737488351232∧x.data.length≤140737488351232∧x.labels.length≤140737488351232∧x.fixes.length≤140737488351232∧x.targets.length≤140737488351232∧x.entries.length≤140737488351232
section
variable {W W':World} {B B':Nat} {x:ObjV} {s:ObjS}
theorem ObjR.below (h:ObjR W B x s) (hb:Below B W W'):ObjR W' B x s:=⟨h.rc.below hb,h.rd.below hb,h.rl.below hb,h.rf.below hb,h.rt.below hb,h.re.below hb,h.caps⟩
theorem ObjR.more (h:ObjR W B x s) (hB:B≤B'):ObjR W B' x s:=⟨h.rc.more hB,h.rd.more hB,h.rl.more hB,h.rf.more hB,h.rt.more hB,h.re.more hB,h.caps⟩
end
def boundB (x:ObjV):Bool:=decide (x.code.length≤16384∧x.data.length≤65536∧x.zero≤65536∧x.labels.length≤4096∧x.fixes.length≤16384∧x.entries.length≤64)
set_option maxHeartbeats 2000000 in
theorem bounded_any (x:ObjV) (s:ObjS) (w:World) (hx:ObjOk x):Calls Tryz.prog 108 #[.agg (objV x s)] w fun e w'=>e=.returned (.bool (boundB x))∧Below w.heap.size w w':=by
 obtain ⟨l1,l2,l3,l4,l5,l6⟩:=hx.lens
 obtain ⟨z0,z1⟩:=hx.zero
 unfold boundB objV
 generalize x.code.length=n1 at *
 generalize x.data.length=n2 at *
 generalize x.labels.length=n3 at *
 generalize x.fixes.length=n4 at *
 generalize x.targets.length=n5 at *
 generalize x.entries.length=n6 at *
 generalize x.zero=z at *
 clear hx
 by_cases h1:n1≤16384
 ·by_cases h2:n2≤65536
  ·by_cases h3:z≤65536
   ·by_cases h4:n3≤4096
    ·by_cases h5:n4≤16384
     ·by_cases h6:n6≤64
      ·go_enter Tryz.func108,Tryz.ntmps108
       go_wp2
       go_ret
       exact ⟨by simp [h1,h2,h3,h4,h5,h6];omega,(Below.refl _ _).alloc (Nat.le_refl _) _⟩
      ·go_enter Tryz.func108,Tryz.ntmps108
       go_wp2
       go_ret
       exact ⟨by simp [h6];omega,(Below.refl _ _).alloc (Nat.le_refl _) _⟩
     ·go_enter Tryz.func108,Tryz.ntmps108
      go_wp2
      go_ret
      exact ⟨by simp [h5],(Below.refl _ _).alloc (Nat.le_refl _) _⟩
    ·go_enter Tryz.func108,Tryz.ntmps108
     go_wp2
     go_ret
     exact ⟨by simp [h4],(Below.refl _ _).alloc (Nat.le_refl _) _⟩
   ·go_enter Tryz.func108,Tryz.ntmps108
    go_wp2
    go_ret
    exact ⟨by simp;omega,(Below.refl _ _).alloc (Nat.le_refl _) _⟩
  ·go_enter Tryz.func108,Tryz.ntmps108
   go_wp2
   go_ret
   exact ⟨by simp [h2],(Below.refl _ _).alloc (Nat.le_refl _) _⟩
 ·go_enter Tryz.func108,Tryz.ntmps108
  go_wp2
  go_ret
  exact ⟨by simp [h1],(Below.refl _ _).alloc (Nat.le_refl _) _⟩
theorem boundB_iff {x:ObjV}:boundB x=true ↔ x.code.length≤16384∧x.data.length≤65536∧x.zero≤65536∧x.labels.length≤4096∧x.fixes.length≤16384∧x.entries.length≤64:=by unfold boundB;rw [decide_eq_true_eq]
def lenOf (x:ObjV) (sec:Int):Int:=if sec=1 then x.code.length else if sec=2 then x.data.length else x.zero
set_option maxHeartbeats 2000000 in
theorem length_any (x:ObjV) (s:ObjS) (sec:Int) (w:World) (hx:ObjOk x) (hB:boundB x=true):Calls Tryz.prog 153 #[.agg (objV x s),.int .u8 sec] w fun e w'=>e=.returned (.int .u32 (lenOf x sec))∧Below w.heap.size w w':=by
 obtain ⟨l1,l2,l3,l4,l5,l6⟩:=boundB_iff.1 hB
 obtain ⟨z0,z1⟩:=hx.zero
 unfold lenOf objV
 generalize x.code.length=n1 at *
 generalize x.data.length=n2 at *
 generalize x.labels.length=n3 at *
 generalize x.fixes.length=n4 at *
 generalize x.targets.length=n5 at *
 generalize x.entries.length=n6 at *
 generalize x.zero=z at *
 clear hx hB
 by_cases h1:sec=1
 ·subst h1
  go_enter Tryz.func153,Tryz.ntmps153
  go_wp2
  go_ret
  exact ⟨by simp,(Below.refl _ _).alloc (Nat.le_refl _) _⟩
 ·have h1b:(sec == 1)=false:=by simpa using h1
  by_cases h2:sec=2
  ·subst h2
   go_enter Tryz.func153,Tryz.ntmps153
   go_wp2
   go_ret
   exact ⟨by simp,(Below.refl _ _).alloc (Nat.le_refl _) _⟩
  ·have h2b:(sec == 2)=false:=by simpa using h2
   rw [if_neg h1,if_neg h2]
   clear h1 h2
   go_enter Tryz.func153,Tryz.ntmps153
   go_wp2
   go_ret
   exact ⟨rfl,(Below.refl _ _).alloc (Nat.le_refl _) _⟩
end Go.Proofs.YtikbegmodacopaaGreatDoor
namespace Go.Proofs.YtikbegmodacopaaGreatDoor
open Go.RowKit Go.PlainAid Go.BigFrame
set_option linter.unusedSimpArgs false
set_option linter.unusedVariables false
set_option maxRecDepth 100000
theorem cE_len (t:Int × Int):(cE t).length=2:=rfl
theorem lE_len (t:LabV):(lE t).length=4:=rfl
theorem fE_len (t:FixV):(fE t).length=4:=rfl
theorem eE_len (t:EntV):(eE t).length=2:=rfl
theorem enc_snoc {α:Type} (enc:α→List Value) (l:List α) (a:α):(l ++ [a]).flatMap enc=l.flatMap enc ++ enc a:=by simp
theorem enc_take {α:Type} (enc:α→List Value) (l:List α) {k:Nat} {a:α} (h:l[k]?=some a):(l.take (k+1)).flatMap enc=(l.take k).flatMap enc ++ enc a:=by
 rw [List.take_add_one,h,← enc_snoc];rfl
theorem instr_info:(Tryz.prog.info? 66).map (fun i=>(i.zero,i.size,i.bytes))=some (some (.agg #[.int .u8 0,.int .u32 0]),2,8):=by kernel_rfl
theorem instr_eq (w:World) (a b:Int):(binOp .neq 66 (.agg #[.int .u8 a,.int .u32 b]) (.agg #[.int .u8 a,.int .u32 b])).run Tryz.prog w=.ok (.bool false) w:=by
 rw [run_neq_struct,run_equalIn_agg _ _ _ _ _ (by kernel_rfl) (by kernel_rfl)]
 have h:=@Tryz.underlying66
 simp only [go_sem,h]
 simp
 go_simp
def mkC (i:Nat):Int × Int:=(200,1000003+(i:Int))
def marksC (n:Nat):List (Int × Int):=(List.range n).map mkC
theorem marksC_succ (n:Nat):marksC (n+1)=marksC n ++ [mkC n]:=by simp [marksC,List.range_succ]
theorem marksC_get {n i:Nat} (h:i<n):(marksC n)[i]?=some (mkC i):=by simp [marksC,h]
set_option maxHeartbeats 1000000 in
theorem markC_any (i:Nat) (hi:i<64) (w:World):Calls Tryz.prog 47 #[.int .i64 0,.int .i64 i] w fun e w'=>e=.returned (.agg #[.int .u8 200,.int .u32 (1000003+(i:Int))])∧Below w.heap.size w w':=by
 go_enter Tryz.func47,Tryz.ntmps47
 go_wp2
 exact bodyPost_ret (v:=.agg #[.int .u8 200,.int .u32 (1000003+(i:Int))]) (by simp [results,Tryz.results47,go_sem]) rfl ⟨rfl,(Below.refl _ w).alloc (Nat.le_refl _) _⟩
theorem ownsR {w:World} {B:Nat} {e:TypeId} {size n:Nat} {v:Value} {xs:List Value} (h:w.ownsRow B e size v n xs):Owns w B [⟨e,size,v,n,xs⟩]:=⟨fun q hq=>by rw [List.mem_singleton.1 hq];exact h,List.pairwise_singleton _ _⟩
set_option maxHeartbeats 4000000 in
theorem LentCode_any (A:Option Addr) (n c B:Nat) (l:List (Int × Int)) (w:World) (hn:n * 8≤140737488351232) (hl:l.length=n) (hr:Reads w B 2 A n (l.flatMap cE)) (hB:B≤w.heap.size) :
  Calls Tryz.prog 34 #[.slice A n c] w fun e w'=>∃ v,e=.returned v∧w'.ownsRow w.heap.size 66 2 v (n+64) ((l ++ marksC 64).flatMap cE)∧Below w.heap.size w w':=by
 obtain ⟨i0,hi0,hz0,hz1,hz2⟩:=info_parts instr_info
 have hn2:n≤17592186043904:=by omega
 have HR:=hide_ hr
 have HLEN:=hide_ hl
 have HBB:=hide_ hB
 clear hr hl hB
 go_enter Tryz.func34,Tryz.ntmps34
 go_wp2
 go_loopw [3,4] (fun v i wr=>∃ k:Nat,k≤n∧i=.int .i64 k∧wr.ownsRow w.heap.size 66 2 v k ((l.take k).flatMap cE)∧Below w.heap.size w wr) (fun _ i _=>n - (intOf i).toNat)
 case atStart=>exact ⟨0,Nat.zero_le _,rfl,World.ownsRow_nil _ _ _ _,Below.refl _ _⟩
 case round =>
  obtain ⟨k,hk,rfl,hown,hb⟩:=hrel
  obtain ⟨A0,c0,rfl,hc0,hc1⟩:=ownsRow_slice hown
  have HO:=hide_ (ownsR (v:=.slice A0 k c0) hown)
  have HB:=hide_ hb
  by_cases hlt:k<n
  ·obtain ⟨⟨op,arg⟩,ht⟩:∃ t,l[k]?=some t:=⟨_,List.getElem?_eq_getElem (by have:=HLEN.out;omega)⟩
   obtain ⟨_,ad,rfl,hbk,p0,p1⟩:=el_cells cE_len (HR.out.below (hb.mono HBB.out)) (by omega) ht
   have q0:=p0 _ rfl
   have q1:=p1 1 _ (by omega) rfl
   have hbs:(ad.add (k * 2)).block<wr.heap.size:=by have:=HBB.out;have:=hb.size;omega
   have HG:=hide_ (enc_take cE l ht)
   rw [show cE (op,arg)=[.int .u8 op,.int .u32 arg] from rfl] at HG
   clear hown hb hc0 hc1 p0 p1 ht
   go_wp2_with (at_builtin;refine wpList_append_owns _ rfl (.tmp 12) (.tmp 17) 22 rfl w.heap.size _ 0 66 2 (.slice A0 k c0) k ((l.take k).flatMap cE) rfl (HO.out.alloc _) (by have:=HB.out.size;simp;omega) i0 _ 8 Tryz.underlying22 hi0 hz0 hz1 hz2 rfl (by omega) rfl _ _ 1 1 [.int .u8 op,.int .u32 arg] rfl (reads_new wr 66 2 1 [.int .u8 op,.int .u32 arg] rfl) (by simp [Value.oneCell']) (by simp only [maxLen];omega) (by omega) ?_)
   intro v1 w1 hO1 hb1 hsz1
   have HB1:=hide_ ((HB.out.alloc HB.out.size _).trans hb1)
   have HO1:=hide_ (hO1.at_ (i:=0) rfl)
   clear hO1 hb1 hsz1
   go_wp2
   go_roundw
   case rel=>exact ⟨k+1,by omega,by go_num,by rw [HG.out];exact HO1.out,HB1.out⟩
   case measure=>simp [intOf];omega
  ·obtain rfl:k=n:=by omega
   have HO2:=hide_ (show wr.ownsRow w.heap.size 66 2 (.slice A0 k c0) (k+0) ((l ++ marksC 0).flatMap cE) by
    have h9:=hown
    rw [List.take_of_length_le (by have:=HLEN.out;omega)] at h9
    rw [show marksC 0=[] from rfl,List.append_nil]
    exact h9)
   clear HO hown hb
   go_wp2
   go_loopw [3,5] (fun v i wr=>∃ j:Nat,j≤64∧i=.int .i64 j∧wr.ownsRow w.heap.size 66 2 v (k+j) ((l ++ marksC j).flatMap cE)∧Below w.heap.size w wr) (fun _ i _=>64 - (intOf i).toNat)
   case atStart=>exact ⟨0,by omega,rfl,HO2.out,HB.out⟩
   case round =>
    clear HO2 HB
    obtain ⟨j,hj,rfl,hown,hb⟩:=hrel
    obtain ⟨A1,c1,rfl,hc2,hc3⟩:=ownsRow_slice hown
    have HOWN:=hide_ hown
    have HB:=hide_ hb
    have HSZ:=hide_ hb.size
    clear hown hb
    by_cases hlt2:j<64
    ·have HMK:=hide_ (fun W=>markC_any j hlt2 W)
     have HMS:=hide_ (show (l ++ marksC (j+1)).flatMap cE=(l ++ marksC j).flatMap cE ++ [.int .u8 200,.int .u32 (1000003+(j:Int))] by rw [marksC_succ,← List.append_assoc,enc_snoc];rfl)
     obtain ⟨M,hM⟩:∃ M,M=1000003+(j:Int):=⟨_,rfl⟩
     rw [← hM] at HMK HMS
     clear hM
     go_wp2_with fail
     refine (HMK.out _).mono ?_
     rintro e w2 ⟨rfl,hb2⟩
     have HO:=hide_ ((ownsR (v:=.slice A1 (k+j) c1) HOWN.out).below hb2)
     have HB2:=hide_ (HB.out.trans (hb2.mono HSZ.out))
     clear hb2
     go_wp2_with (at_builtin;refine wpList_append_owns _ rfl (.tmp 23) (.tmp 26) 22 rfl w.heap.size _ 0 66 2 (.slice A1 (k+j) c1) (k+j) ((l ++ marksC j).flatMap cE) rfl (HO.out.alloc _) (by have:=HB2.out.size;simp;omega) i0 _ 8 Tryz.underlying22 hi0 hz0 hz1 hz2 rfl (by omega) rfl _ _ 1 1 [.int .u8 200,.int .u32 M] rfl (reads_new w2 66 2 1 [.int .u8 200,.int .u32 M] rfl) (by simp [Value.oneCell']) (by simp only [maxLen];omega) (by omega) ?_)
     intro v1 w3 hO1 hb1 hsz1
     have HB3:=hide_ ((HB2.out.alloc HB2.out.size _).trans hb1)
     have HO1:=hide_ (hO1.at_ (i:=0) rfl)
     clear hO1 hb1 hsz1
     go_wp2
     go_roundw
     case rel=>exact ⟨j+1,by omega,by go_num,by rw [HMS.out,List.flatMap_append,List.append_assoc];exact HO1.out,HB3.out⟩
     case measure=>simp [intOf];omega
    ·obtain rfl:j=64:=by omega
     go_wp2
     go_ret
     exact ⟨_,rfl,HOWN.out,HB.out⟩
set_option maxHeartbeats 4000000 in
theorem SameCode_any (A A':Option Addr) (n c c' B:Nat) (l:List (Int × Int)) (w:World) (hn:n≤140737488351232) (hl:l.length=n) (ha:Reads w B 2 A n (l.flatMap cE)) (hb:Reads w B 2 A' n (l.flatMap cE)) (hB:B≤w.heap.size) :
  Calls Tryz.prog 50 #[.slice A n c,.slice A' n c'] w fun e w'=>e=.returned (.bool true)∧Below w.heap.size w w':=by
 have h0:((n:Int) != (n:Int))=false:=by simp
 have HA:=hide_ ha
 have HR:=hide_ hb
 have HLEN:=hide_ hl
 have HBB:=hide_ hB
 clear ha hb hl hB
 go_enter Tryz.func50,Tryz.ntmps50
 go_wp2
 go_loopw [5] (fun i wr=>∃ k:Nat,k≤n∧i=.int .i64 k∧Drew w wr) (fun i _=>n - (intOf i).toNat)
 case atStart=>exact ⟨0,Nat.zero_le _,rfl,Drew.refl w⟩
 case round =>
  obtain ⟨k,hk,rfl,hd⟩:=hrel
  have HD:=hide_ hd
  by_cases hlt:k<n
  ·obtain ⟨⟨op,arg⟩,ht⟩:∃ t,l[k]?=some t:=⟨_,List.getElem?_eq_getElem (by have:=HLEN.out;omega)⟩
   obtain ⟨_,ad,rfl,hbk,p0,p1⟩:=el_cells cE_len HA.out (by omega) ht
   obtain ⟨_,ad',rfl,hbk',r0,r1⟩:=el_cells cE_len HR.out (by omega) ht
   have x0:=(hd.cell _).trans (p0 _ rfl)
   have x1:=(hd.cell _).trans (p1 1 _ (by omega) rfl)
   have y0:=(hd.cell _).trans (r0 _ rfl)
   have y1:=(hd.cell _).trans (r1 1 _ (by omega) rfl)
   have hb1:(ad.add (k * 2)).block<wr.heap.size:=by rw [hd.size];have:=HBB.out;omega
   have hb2:(ad'.add (k * 2)).block<wr.heap.size:=by rw [hd.size];have:=HBB.out;omega
   have hq:=fun w=>instr_eq w op arg
   clear p0 p1 r0 r1 hd hbk hbk' ht
   go_wp2
   go_big_quiet (fail)
   go_wp2
   go_roundw
   case rel=>exact ⟨k+1,by omega,by go_num,HD.out.more _⟩
   case measure=>simp [intOf];omega
  ·obtain rfl:k=n:=by omega
   clear hd
   go_wp2
   go_ret
   exact ⟨rfl,HD.out.below _⟩
set_option maxHeartbeats 4000000 in
theorem KeptCode_any (A A':Option Addr) (n c c' B:Nat) (l:List (Int × Int)) (w:World) (hn:n≤140737488351232) (hl:l.length=n) (ha:Reads w B 2 A (n+64) ((l ++ marksC 64).flatMap cE)) (hb:Reads w B 2 A' n (l.flatMap cE)) (hB:B≤w.heap.size) :
  Calls Tryz.prog 12 #[.slice A (n+64) c,.slice A' n c'] w fun e w'=>e=.returned (.bool true)∧Below w.heap.size w w':=by
 have h0:(((n:Int)+64) != ((n:Int)+64))=false:=by simp
 have HA:=hide_ ha
 have HR:=hide_ hb
 have HLEN:=hide_ hl
 have HBB:=hide_ hB
 clear ha hb hl hB
 go_enter Tryz.func12,Tryz.ntmps12
 go_wp2
 go_loopw [5] (fun i wr=>∃ k:Nat,k≤n∧i=.int .i64 k∧Drew w wr) (fun i _=>n - (intOf i).toNat)
 case atStart=>exact ⟨0,Nat.zero_le _,rfl,Drew.refl w⟩
 case round =>
  obtain ⟨k,hk,rfl,hd⟩:=hrel
  have HD:=hide_ hd
  by_cases hlt:k<n
  ·obtain ⟨⟨op,arg⟩,ht⟩:∃ t,l[k]?=some t:=⟨_,List.getElem?_eq_getElem (by have:=HLEN.out;omega)⟩
   have ht2:(l ++ marksC 64)[k]?=some (op,arg):=by rw [List.getElem?_append_left (by have:=HLEN.out;omega)];exact ht
   obtain ⟨_,ad,rfl,hbk,p0,p1⟩:=el_cells cE_len HA.out (by omega) ht2
   obtain ⟨_,ad',rfl,hbk',r0,r1⟩:=el_cells cE_len HR.out (by omega) ht
   have x0:=(hd.cell _).trans (p0 _ rfl)
   have x1:=(hd.cell _).trans (p1 1 _ (by omega) rfl)
   have y0:=(hd.cell _).trans (r0 _ rfl)
   have y1:=(hd.cell _).trans (r1 1 _ (by omega) rfl)
   have hb1:(ad.add (k * 2)).block<wr.heap.size:=by rw [hd.size];have:=HBB.out;omega
   have hb2:(ad'.add (k * 2)).block<wr.heap.size:=by rw [hd.size];have:=HBB.out;omega
   have hq:=fun w=>instr_eq w op arg
   clear p0 p1 r0 r1 hd hbk hbk' ht ht2
   go_wp2
   go_big_quiet (fail)
   go_wp2
   go_roundw
   case rel=>exact ⟨k+1,by omega,by go_num,HD.out.more _⟩
   case measure=>simp [intOf];omega
  ·obtain rfl:k=n:=by omega
   clear hd
   go_wp2
   go_loopw [6] (fun i wr=>∃ j:Nat,j≤64∧i=.int .i64 j∧Below w.heap.size w wr) (fun i _=>64 - (intOf i).toNat)
   case atStart=>exact ⟨0,by omega,rfl,HD.out.below _⟩
   case round =>
    obtain ⟨j,hj,rfl,hbw⟩:=hrel
    have HBW:=hide_ hbw
    by_cases hlt:j<64
    ·have ht2:(l ++ marksC 64)[k+j]?=some (200,1000003+(j:Int)):=by
      rw [List.getElem?_append_right (by have:=HLEN.out;omega),show k+j - l.length=j by have:=HLEN.out;omega,marksC_get hlt]
      rfl
     obtain ⟨_,ad,rfl,hbk,p0,p1⟩:=el_cells cE_len HA.out (by omega) ht2
     have q0:=p0 _ rfl
     have q1:=p1 1 _ (by omega) rfl
     have hbs0:(ad.add ((k+j) * 2)).block<w.heap.size:=by have:=HBB.out;omega
     have hbs:(ad.add ((k+j) * 2)).block<wr.heap.size:=by have:=HBB.out;have:=hbw.size;omega
     have hcx:=(hbw.cell (p:=ad.add ((k+j) * 2)) hbs0).trans q0
     have hcy:=(hbw.cell (p:=⟨(ad.add ((k+j) * 2)).block,(ad.add ((k+j) * 2)).off+1,none⟩) hbs0).trans q1
     have HMK:=hide_ (fun W=>markC_any j hlt W)
     obtain ⟨M,hM⟩:∃ M,M=1000003+(j:Int):=⟨_,rfl⟩
     rw [← hM] at HMK hcy
     have s1:IntKind.i64.wrap ((k:Int)+(j:Int))=(k:Int)+(j:Int):=IntWalk.i64_in _ (by omega)
     have s2:(0:Int)≤(k:Int)+(j:Int):=by omega
     have s3:((k:Int)+(j:Int)).toNat=k+j:=by omega
     have s4:(k:Int)+(j:Int)<(k:Int)+64:=by omega
     have hq:=fun w=>instr_eq w 200 M
     have HSW:=hide_ hbw.size
     clear hM hbw q0 q1 hbs0 p0 p1 ht2 hbk
     go_upto_region 11 with (fail)
     go_region_held3 (fun W=>W.cell? (ad.add ((k+j) * 2))=some (.int .u8 200)∧W.cell? ⟨(ad.add ((k+j) * 2)).block,(ad.add ((k+j) * 2)).off+1,none⟩=some (.int .u32 M))
      (first | exact ⟨hcx,hcy⟩ | exact ⟨(hb7.cell (p:=ad.add ((k+j) * 2)) hbs).trans hcx,(hb7.cell (p:=⟨(ad.add ((k+j) * 2)).block,(ad.add ((k+j) * 2)).off+1,none⟩) hbs).trans hcy⟩ | go_keep)
      ((go_at_call 47;refine (HMK.out _).mono ?_;rintro e w7 ⟨rfl,hb7⟩))
     all_goals
      have HB7:=hide_ (HBW.out.trans ((show Below wr.heap.size wr w7 by first | exact hb7 | exact (Below.refl _ wr).drew.trans hb7).mono HSW.out))
      clear hb7
      go_wp2
      go_roundw
      case rel=>exact ⟨j+1,by omega,by go_num,by first | exact HB7.out | exact HB7.out.drew⟩
      case measure=>simp [intOf];omega
    ·obtain rfl:j=64:=by omega
     clear hbw
     go_wp2
     go_ret
     exact ⟨rfl,HBW.out⟩
end Go.Proofs.YtikbegmodacopaaGreatDoor
namespace Go.Proofs.YtikbegmodacopaaGreatDoor
open Go.RowKit Go.PlainAid Go.BigFrame
set_option linter.unusedSimpArgs false
set_option linter.unusedVariables false
set_option maxRecDepth 100000
theorem lab_eq (w:World) (s:ByteArray) (a b:Int) (o:Bool):(binOp .neq 78 (.agg #[.string s,.int .u8 a,.int .u32 b,.bool o]) (.agg #[.string s,.int .u8 a,.int .u32 b,.bool o])).run Tryz.prog w=.ok (.bool false) w:=by
 rw [run_neq_struct,run_equalIn_agg _ _ _ _ _ (by kernel_rfl) (by kernel_rfl)]
 have h:=@Tryz.underlying78
 simp only [go_sem,h]
 simp
 go_simp
theorem fix_eq (w:World) (s:ByteArray) (a b c:Int):(binOp .neq 81 (.agg #[.int .u8 a,.int .u32 b,.string s,.int .u32 c]) (.agg #[.int .u8 a,.int .u32 b,.string s,.int .u32 c])).run Tryz.prog w=.ok (.bool false) w:=by
 rw [run_neq_struct,run_equalIn_agg _ _ _ _ _ (by kernel_rfl) (by kernel_rfl)]
 have h:=@Tryz.underlying81
 simp only [go_sem,h]
 simp
 go_simp
theorem ent_eq (w:World) (s r:ByteArray):(binOp .neq 83 (.agg #[.string s,.string r]) (.agg #[.string s,.string r])).run Tryz.prog w=.ok (.bool false) w:=by
 rw [run_neq_struct,run_equalIn_agg _ _ _ _ _ (by kernel_rfl) (by kernel_rfl)]
 have h:=@Tryz.underlying83
 simp only [go_sem,h]
 simp
 go_simp
end Go.Proofs.YtikbegmodacopaaGreatDoor
namespace Go.Proofs.YtikbegmodacopaaGreatDoor
set_option maxRecDepth 100000
open Go.RowKit
structure OpR where
 w:List UInt8
 width:Nat
 most:Nat
 takes:Nat
 gives:Nat
 kind:Nat
deriving DecidableEq
def opRows:List OpR:=[⟨[],0,0,0,0,0⟩,
 ⟨[110,111,112],0,0,0,0,1⟩,
 ⟨[98,114,101,97,107],0,0,0,0,8⟩,
 ⟨[101,110,116,101,114],2,65535,0,0,6⟩,
 ⟨[108,101,97,118,101],2,65535,1,0,7⟩,
 ⟨[99,97,108,108],0,0,1,1,5⟩,
 ⟨[103,111,116,111],2,16383,0,0,3⟩,
 ⟨[106,117,109,112],0,0,1,0,4⟩,
 ⟨[99,111,110,115,116],4,4294967295,0,1,1⟩,
 ⟨[108,111,99,97,108],4,4294967295,0,1,1⟩,
 ⟨[112,111,112],0,0,1,0,1⟩,
 ⟨[100,117,112],0,0,1,2,1⟩,
 ⟨[97,114,103],1,14,1,0,1⟩,
 ⟨[101,113],2,16383,2,0,2⟩,
 ⟨[110,101],2,16383,2,0,2⟩,
 ⟨[108,116,105],2,16383,2,0,2⟩,
 ⟨[108,101,105],2,16383,2,0,2⟩,
 ⟨[103,116,105],2,16383,2,0,2⟩,
 ⟨[103,101,105],2,16383,2,0,2⟩,
 ⟨[108,116,117],2,16383,2,0,2⟩,
 ⟨[108,101,117],2,16383,2,0,2⟩,
 ⟨[103,116,117],2,16383,2,0,2⟩,
 ⟨[103,101,117],2,16383,2,0,2⟩,
 ⟨[101,113,102],2,16383,2,0,2⟩,
 ⟨[110,101,102],2,16383,2,0,2⟩,
 ⟨[108,116,102],2,16383,2,0,2⟩,
 ⟨[108,101,102],2,16383,2,0,2⟩,
 ⟨[103,116,102],2,16383,2,0,2⟩,
 ⟨[103,101,102],2,16383,2,0,2⟩,
 ⟨[108,111,97,100,49],0,0,1,1,1⟩,
 ⟨[108,111,97,100,50],0,0,1,1,1⟩,
 ⟨[108,111,97,100,52],0,0,1,1,1⟩,
 ⟨[115,116,111,114,101,49],0,0,2,0,1⟩,
 ⟨[115,116,111,114,101,50],0,0,2,0,1⟩,
 ⟨[115,116,111,114,101,52],0,0,2,0,1⟩,
 ⟨[99,111,112,121],2,256,2,0,1⟩,
 ⟨[115,101,120,56],0,0,1,1,1⟩,
 ⟨[115,101,120,49,54],0,0,1,1,1⟩,
 ⟨[110,101,103],0,0,1,1,1⟩,
 ⟨[97,100,100],0,0,2,1,1⟩,
 ⟨[115,117,98],0,0,2,1,1⟩,
 ⟨[109,117,108],0,0,2,1,1⟩,
 ⟨[100,105,118,105],0,0,2,1,1⟩,
 ⟨[100,105,118,117],0,0,2,1,1⟩,
 ⟨[109,111,100,105],0,0,2,1,1⟩,
 ⟨[109,111,100,117],0,0,2,1,1⟩,
 ⟨[97,110,100],0,0,2,1,1⟩,
 ⟨[111,114],0,0,2,1,1⟩,
 ⟨[120,111,114],0,0,2,1,1⟩,
 ⟨[110,111,116],0,0,1,1,1⟩,
 ⟨[115,104,108],0,0,2,1,1⟩,
 ⟨[115,104,114,105],0,0,2,1,1⟩,
 ⟨[115,104,114,117],0,0,2,1,1⟩,
 ⟨[110,101,103,102],0,0,1,1,1⟩,
 ⟨[97,100,100,102],0,0,2,1,1⟩,
 ⟨[115,117,98,102],0,0,2,1,1⟩,
 ⟨[109,117,108,102],0,0,2,1,1⟩,
 ⟨[100,105,118,102],0,0,2,1,1⟩,
 ⟨[99,118,105,102],0,0,1,1,1⟩,
 ⟨[99,118,102,105],0,0,1,1,1⟩]
def opCells (r:OpR):List Value:=[.string ⟨r.w.toArray⟩,.int .i64 r.width,.int .u32 r.most,.int .i64 r.takes,.int .i64 r.gives,.int .u8 r.kind]
def rowsC:Array Value:=(opRows.flatMap opCells).toArray
def opRow (k:Nat):OpR:=opRows.getD k ⟨[],0,0,0,0,0⟩
theorem opRows_len:opRows.length=60:=rfl
theorem flat6:∀ (l:List OpR) (k:Nat) (r:OpR),l[k]?=some r→∀ j u,(opCells r)[j]?=some u→(l.flatMap opCells)[k * 6+j]?=some u
 | [],_,_,h,_,_,_=>by simp at h
 | a :: l,0,r,h,j,u,hu=>by
  have e:a=r:=by simpa using h
  subst e
  rw [List.flatMap_cons,Nat.zero_mul,Nat.zero_add,List.getElem?_append_left]
  ·exact hu
  ·exact (List.getElem?_eq_some_iff.1 hu).1
 | a :: l,k+1,r,h,j,u,hu=>by
  rw [List.flatMap_cons,List.getElem?_append_right (by simp [opCells];omega)]
  have e:(k+1) * 6+j - (opCells a).length=k * 6+j:=by simp [opCells];omega
  rw [e]
  exact flat6 l k r (by simpa using h) j u hu
theorem rowsC_get {k:Nat} (hk:k<60) (j:Nat) (u:Value) (hu:(opCells (opRow k))[j]?=some u):rowsC[k * 6+j]?=some u:=by
 have h:opRows[k]?=some (opRow k):=by
  unfold opRow
  rw [List.getD_eq_getElem?_getD,List.getElem?_eq_getElem (by rw [opRows_len];exact hk)]
  rfl
 have:=flat6 opRows k _ h j u hu
 simpa [rowsC] using this
theorem rowsC_one:rowsC.all (·.oneCell')=true:=by kernel_rfl
theorem rowsC_info:(Tryz.prog.info? 145).map (·.size)=some rowsC.size:=by kernel_rfl
def zRow:List Value:=[.string ⟨#[]⟩,.int .i64 0,.int .u32 0,.int .i64 0,.int .i64 0,.int .u8 0]
def zC:Array Value:=(opRows.flatMap fun _=>zRow).toArray
theorem zC_zero (w:World):(zeroValue 145).run Tryz.prog w=.ok (.agg zC) w:=by kernel_rfl
theorem zC_size:zC.size=rowsC.size:=by kernel_rfl
theorem below_setRow {B g:Nat} {a w:World} (h:Below B a w) (hg:B≤g) (cs:Array Value):Below B a (w.setRow g cs) :=
 ⟨h.os,h.tape,h.output,by rw [size_setRow];exact h.size,fun k hk=>(setRow_other w g k cs (by omega)).trans (h.block k hk)⟩
def builds (P:Program):List Oper→Act→Option Act
 | [],a=>some a
 | o :: l,a=>match o.guard,o.op with
  | none,.build t parts=>match P.built t (parts.map fun (i,x)=>(i,a.eval x)).toList with
   | some cs=>builds P l (a.put o.dst (.agg cs))
   | none=>none
  | _,_=>none
theorem wpList_builds {P:Program} {ops:Array Oper} {Q:Exit→Act→World→Prop} {w:World} {rest:List Oper}:∀ (l:List Oper) (a a':Act),builds P l a=some a'→wpList P ops Q rest a' w→wpList P ops Q (l ++ rest) a w
 | [],a,a',h,hr=>by
  have:a=a':=by simpa [builds] using h
  subst this
  exact hr
 | o :: l,a,a',h,hr=>by
  obtain ⟨dst,op,ty,pos,after,guard⟩:=o
  unfold builds at h
  cases guard with
  | some g=>simp at h
  | none =>
   cases op <;> simp only at h <;> try (cases h;done)
   rename_i t parts
   cases hb:P.built t (parts.map fun (i,x)=>(i,a.eval x)).toList with
   | none=>rw [hb] at h;cases h
   | some cs =>
    rw [hb] at h
    refine wpList_build rfl t parts rfl (by rw [hb];rfl) ?_
    rw [hb]
    exact wpList_builds l _ a' h hr
theorem wpList_buildsN {P:Program} {ops:Array Oper} {Q:Exit→Act→World→Prop} {w:World} {l:List Oper} {a:Act} (n:Nat) (p q:Operand) (vp vq:Value)
  (h:(builds P (l.take n) a).map (fun a=>(a.eval p,a.eval q,a.defers))=some (vp,vq,[]))
  (hr:∀ a':Act,a'.eval p=vp→a'.eval q=vq→a'.defers=[]→wpList P ops Q (l.drop n) a' w):wpList P ops Q l a w:=by
 rw [← List.take_append_drop n l]
 cases hb:builds P (l.take n) a with
 | none=>rw [hb] at h;cases h
 | some a' =>
  rw [hb] at h
  simp only [Option.map_some,Option.some.injEq,Prod.mk.injEq] at h
  exact wpList_builds _ a a' hb (hr a' h.1 h.2.1 h.2.2)
set_option maxHeartbeats 4000000 in
theorem rows_any (w:World):Calls Tryz.prog 102 #[] w fun e w'=>e=.returned (.agg rowsC)∧Below w.heap.size w w':=by
 have hz:=zC_zero
 go_enter Tryz.func102,Tryz.ntmps102
 go_upto_region 1 with (fail)
 refine wp_region_lit ?_
 rename_i hK
 refine wpList_buildsN 60 (.tmp 0) (.tmp 60) (.pointer (some ⟨w.heap.size,0,none⟩)) (.agg rowsC) (by kernel_rfl) ?_
 intro a' h0 h60 hd
 have hg:=heap_alloc_new w (.cells zC 145)
 refine wpList_store_row rfl 145 (.tmp 0) (.tmp 60) rfl w.heap.size rowsC h0 h60 145 zC hg rowsC_info zC_size rowsC_one ?_
 refine wpList_nil ?_
 refine hK _ _ (wp_ret ?_)
 exact bodyPost_ret (v:=.agg rowsC) (results_cell_row rfl _ _ w.heap.size 145 rowsC (0,0) _ (by simpa [Act.eval,Act.put] using h0) (setRow_heap _ _ _ _ _ _ hg) Tryz.underlying145 rfl rowsC_info) (by simpa [Act.put] using hd) ⟨rfl,below_setRow ((Below.refl _ _).alloc (Nat.le_refl _) _) (Nat.le_refl _) _⟩
def opC (k:Nat):Array Value:=(opCells (opRow k)).toArray
theorem result_cell2 {fn:Func} {p u:Tmp} {ty:TypeId} (h:fn.results=#[.cell p ty,.tmp u]) (tmps:Array Value) (P:Program) (w:World) (g:Nat) (cs:Array Value) (v:Value)
  (hp:tmps.getD p undef=.pointer (some ⟨g,0,none⟩)) (hv:tmps.getD u undef=v) (hl:(loadVar ty ⟨g,0,none⟩).run P w=.ok (.agg cs) w) :
  (results fn tmps).run P w=.ok (.tuple #[.agg cs,v]) w:=by
 have hp':tmps[p]?.getD undef=.pointer (some ⟨g,0,none⟩):=by simpa using hp
 have hv':tmps[u]?.getD undef=v:=by simpa using hv
 simp [results,h,hp',hv',asAddr,hl]
theorem opC_size (k:Nat):(opC k).size=6:=rfl
theorem opC_info (k:Nat):(Tryz.prog.info? 114).map (·.size)=some (opC k).size:=by rw [opC_size];kernel_rfl
theorem opC_one (k:Nat):(opC k).all (·.oneCell')=true:=by simp [opC,opCells,Value.oneCell']
set_option maxHeartbeats 4000000 in
theorem Info_yes (k:Nat) (h1:1≤k) (h2:k≤59) (w:World):Calls Tryz.prog 65 #[.int .u8 k] w fun e w'=>e=.returned (.tuple #[.agg (opC k),.bool true])∧Below w.heap.size w w':=by
 have hz:=zC_zero
 have d1:decide ((k:Int)<1)=false:=by simp;omega
 have d2:decide ((59:Int)<(k:Int))=false:=by simp;omega
 go_enter Tryz.func65,Tryz.ntmps65
 go_wp2_with fail
 refine (rows_any _).mono ?_
 rintro e w1 ⟨rfl,hb⟩
 have hg:=heap_alloc_new w1 (.cells zC 145)
 have hg2:((w1.alloc (.cells zC 145)).setRow w1.heap.size rowsC).heap[w.heap.size]?=some (.cells zRow.toArray 114 (0,0)):=by
  have hs:=hb.size
  simp at hs
  rw [setRow_other _ _ _ _ (by omega),heap_alloc_old _ _ (by omega),hb.block _ (by simp)]
  exact heap_alloc_new w _
 have hc:∀ j u,(opCells (opRow k))[j]?=some u→((w1.alloc (.cells zC 145)).setRow w1.heap.size rowsC).cell? ⟨w1.heap.size,k * 6+j,none⟩=some u:=fun j u hu=>(cell_setRow_same _ _ _ zC rowsC _ _ hg).trans (rowsC_get (by omega) j u hu)
 have c0:=hc 0 _ rfl
 rw [Nat.add_zero] at c0
 have c1:=hc 1 _ rfl
 have c2:=hc 2 _ rfl
 have c3:=hc 3 _ rfl
 have c4:=hc 4 _ rfl
 have c5:=hc 5 _ rfl
 have HB:=hide_ (show Below w.heap.size w w1 from ((Below.refl _ _).alloc (Nat.le_refl _) _).trans (hb.mono (by simp)))
 have HG:=hide_ hg
 have HG2:=hide_ hg2
 clear hb hc hg hg2
 go_wp2_with (first | (with_reducible refine wpList_store_row rfl 145 (.tmp 4) (.tmp 12) rfl _ rowsC rfl rfl 145 zC HG.out rowsC_info zC_size rowsC_one ?_) | (refine wpList_store_row rfl 114 (.tmp 2) (.tmp 15) rfl _ (opC k) rfl rfl 114 zRow.toArray HG2.out (opC_info k) rfl (opC_one k) ?_))
 exact bodyPost_ret (v:=.tuple #[.agg (opC k),.bool true]) (result_cell2 rfl _ _ _ w.heap.size (opC k) _ rfl rfl (run_loadVar_row _ _ _ _ _ _ _ (setRow_heap _ _ _ _ _ _ HG2.out) Tryz.underlying114 rfl (opC_info k))) rfl
  ⟨rfl,below_setRow (below_setRow ((HB.out).alloc HB.out.size _) HB.out.size _) (Nat.le_refl _) _⟩
set_option maxHeartbeats 1000000 in
theorem Info_no (op:Int) (h:op<1∨59<op) (w:World):Calls Tryz.prog 65 #[.int .u8 op] w fun e w'=>e=.returned (.tuple #[.agg zRow.toArray,.bool false])∧Below w.heap.size w w':=by
 by_cases h1:op<1
 ·have d1:decide (op<1)=true:=by simpa using h1
  clear h
  go_enter Tryz.func65,Tryz.ntmps65
  go_wp2
  exact bodyPost_ret (v:=.tuple #[.agg zRow.toArray,.bool false]) (by simp [results,Tryz.results65,go_sem,zRow]) rfl ⟨rfl,(Below.refl _ _).alloc (Nat.le_refl _) _⟩
 ·have d1:decide (op<1)=false:=by simpa using h1
  have d2:decide (59<op)=true:=by simp;omega
  clear h
  go_enter Tryz.func65,Tryz.ntmps65
  go_wp2
  exact bodyPost_ret (v:=.tuple #[.agg zRow.toArray,.bool false]) (by simp [results,Tryz.results65,go_sem,zRow]) rfl ⟨rfl,(Below.refl _ _).alloc (Nat.le_refl _) _⟩
def opR (op:Int):OpR:=if 1≤op∧op≤59 then opRow op.toNat else ⟨[],0,0,0,0,0⟩
def opOk (op:Int):Bool:=decide (1≤op∧op≤59)
def opV (op:Int):Array Value:=(opCells (opR op)).toArray
theorem Info_any (op:Int) (w:World):Calls Tryz.prog 65 #[.int .u8 op] w fun e w'=>e=.returned (.tuple #[.agg (opV op),.bool (opOk op)])∧Below w.heap.size w w':=by
 by_cases h:1≤op∧op≤59
 ·obtain ⟨k,hk⟩:∃ k:Nat,op=k:=⟨op.toNat,by omega⟩
  subst hk
  have e1:opV (k:Int)=opC k:=by unfold opV opR opC;rw [if_pos h];rfl
  have e2:opOk (k:Int)=true:=by unfold opOk;rw [decide_eq_true h]
  rw [e1,e2]
  exact Info_yes k (by omega) (by omega) w
 ·have e1:opV op=zRow.toArray:=by unfold opV opR;rw [if_neg h];rfl
  have e2:opOk op=false:=by unfold opOk;rw [decide_eq_false h]
  rw [e1,e2]
  exact Info_no op (by omega) w
end Go.Proofs.YtikbegmodacopaaGreatDoor
namespace Go.Proofs.YtikbegmodacopaaGreatDoor
set_option maxRecDepth 100000
open Go.RowKit
set_option linter.unusedSimpArgs false
set_option linter.unusedVariables false
def opChk (op arg:Int):Int:=if opOk op then (if ((opR op).most:Int)<arg then 71 else 0) else 70
set_option maxHeartbeats 1000000 in
theorem Check_any (op arg:Int) (w:World):Calls Tryz.prog 64 #[.agg #[.int .u8 op,.int .u32 arg]] w fun e w'=>e=.returned (.int .i64 (opChk op arg))∧Below w.heap.size w w':=by
 obtain ⟨r,hr⟩:∃ r,r=opR op:=⟨_,rfl⟩
 obtain ⟨b,hb⟩:∃ b,b=opOk op:=⟨_,rfl⟩
 have HI:=hide_ (fun w=>Info_any op w)
 unfold opV at HI
 unfold opChk
 rw [← hr,← hb] at HI ⊢
 clear hr hb
 unfold opCells at HI
 cases b
 ·go_enter Tryz.func64,Tryz.ntmps64
  go_wp2_with fail
  refine (HI.out _).mono ?_
  rintro e w1 ⟨rfl,hb⟩
  have HB:=hide_ (show Below w.heap.size w w1 from ((Below.refl _ _).alloc (Nat.le_refl _) _).trans (hb.mono (by simp)))
  clear hb
  go_wp2
  go_ret
  exact ⟨rfl,(HB.out).alloc HB.out.size _⟩
 ·by_cases hm:((r.most:Int)<arg)
  all_goals
   go_enter Tryz.func64,Tryz.ntmps64
   go_wp2_with fail
   refine (HI.out _).mono ?_
   rintro e w1 ⟨rfl,hb⟩
   have hc:=(hb.cell (p:=⟨w.heap.size,1,none⟩) (by simp)).trans (show (w.alloc (.cells #[.int .u8 op,.int .u32 arg] 66)).cell? ⟨w.heap.size,1,none⟩=some (.int .u32 arg) from by simp)
   have hz:w.heap.size<w1.heap.size:=by have:=hb.size;simp at this;omega
   have HB:=hide_ (show Below w.heap.size w w1 from ((Below.refl _ _).alloc (Nat.le_refl _) _).trans (hb.mono (by simp)))
   clear hb
   go_wp2
   go_ret
   exact ⟨by simp [hm],(HB.out).alloc HB.out.size _⟩
end Go.Proofs.YtikbegmodacopaaGreatDoor
namespace Go.Proofs.YtikbegmodacopaaGreatDoor
set_option maxRecDepth 100000
open Go.RowKit
set_option linter.unusedSimpArgs false
set_option linter.unusedVariables false
theorem wpList_built {P:Program} {ops:Array Oper} {rest:List Oper} {o:Oper} {a:Act} {w:World} {Q:Exit→Act→World→Prop} (hg:o.guard=none) (t:TypeId) (parts:Array (Nat × Operand)) (ho:o.op=.build t parts) (cs:Array Value)
  (hb:P.built t (parts.map fun (i,x)=>(i,a.eval x)).toList=some cs) (h:wpList P ops Q rest (a.put o.dst (.agg cs)) w):wpList P ops Q (o :: rest) a w :=
 wpList_build hg t parts ho (by rw [hb];rfl) (by rw [hb];exact h)
def wordsC:Array Value:=(opRows.map fun r=>Value.string ⟨r.w.toArray⟩).toArray
theorem wordsC_get {k:Nat} (hk:k<60):wordsC[k]?=some (.string ⟨(opRow k).w.toArray⟩):=by
 have h:opRows[k]?=some (opRow k):=by
  unfold opRow
  rw [List.getD_eq_getElem?_getD,List.getElem?_eq_getElem (by rw [opRows_len];exact hk)]
  rfl
 simp [wordsC,h]
theorem wordsC_one:wordsC.all (·.oneCell')=true:=by kernel_rfl
theorem wordsC_info:(Tryz.prog.info? 186).map (·.size)=some wordsC.size:=by kernel_rfl
def zW:Array Value:=Array.replicate 60 (.string ⟨#[]⟩)
theorem zW_zero (w:World):(zeroValue 186).run Tryz.prog w=.ok (.agg zW) w:=by kernel_rfl
theorem zW_size:zW.size=wordsC.size:=by kernel_rfl
set_option maxHeartbeats 4000000 in
theorem word_any (k:Nat) (h1:1≤k) (h2:k≤59) (w:World):Calls Tryz.prog 107 #[.int .i64 k] w fun e w'=>e=.returned (.string ⟨(opRow k).w.toArray⟩)∧Below w.heap.size w w':=by
 have hz:=zW_zero
 have d1:decide (k<1)=false:=by simp;omega
 have d2:decide ((59:Int)<(k:Int))=false:=by simp;omega
 have d3:decide ((k:Int)<1)=false:=by simp;omega
 have hg:=heap_alloc_new w (.cells zW 186)
 have hc:((w.alloc (.cells zW 186)).setRow w.heap.size wordsC).cell? ⟨w.heap.size,k,none⟩=some (.string ⟨(opRow k).w.toArray⟩):=(cell_setRow_same _ _ _ zW wordsC _ _ hg).trans (wordsC_get (by omega))
 have HG:=hide_ hg
 clear hg
 go_enter Tryz.func107,Tryz.ntmps107
 go_wp2_with (first | (refine wpList_built rfl 186 _ rfl wordsC (by kernel_rfl) ?_) | (with_reducible refine wpList_store_row rfl 186 (.tmp 3) (.tmp 4) rfl _ wordsC rfl rfl 186 zW HG.out wordsC_info zW_size wordsC_one ?_))
 go_ret
 exact ⟨rfl,below_setRow ((Below.refl _ _).alloc (Nat.le_refl _) _) (Nat.le_refl _) _⟩
theorem info_kept {w w1:World} (hb:Below (w.alloc (.cells zRow.toArray 114)).heap.size (w.alloc (.cells zRow.toArray 114)) w1):Hid (∀ o,(w1.alloc o).heap[w.heap.size]?=some (.cells zRow.toArray 114 (0,0))) :=
 hide_ (fun o=>by
  have hs:=hb.size
  simp at hs
  rw [heap_alloc_old _ _ (by omega),hb.block _ (by simp)]
  exact heap_alloc_new w _)
end Go.Proofs.YtikbegmodacopaaGreatDoor
