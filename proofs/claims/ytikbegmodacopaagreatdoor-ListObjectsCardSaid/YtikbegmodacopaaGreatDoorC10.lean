/-
  Joined and packed by program.
-/
import Derived.Test.YtikbegmodacopaaGreatDoorProg
import Derived.Test.YtikbegmodacopaaGreatDoorC01
import Derived.Sort.WalkA
import Derived.Sort.WalkB12
import Derived.Deep.LoopGhost
import Derived.WalkKit
import Derived.Sort.WalkB2
import Derived.Sort.WalkB3
import Derived.Sort.WalkC
namespace Go.Proofs.YtikbegmodacopaaGreatDoor
open Go.RowKit Go.PlainAid Go.BigFrame
open Go.Sort (swp ltInt insInner insOuter reverseLoop)
set_option linter.unusedSimpArgs false
set_option linter.unusedVariables false
set_option maxRecDepth 100000
def srow (g c n:Nat) (d:Array Int):Ro:=⟨25,1,.slice (some ⟨g,0,none⟩) n c,n,d.toList.map (Value.int .u32)⟩
structure SAt (B i g c n:Nat) (rs:List Ro) (w wr:World) (d:Array Int):Prop where
 sz:d.size=n
 ow:Owns wr B (rs.set i (srow g c n d))
 bl:Below B w wr
theorem srow_at {rs:List Ro} {i:Nat} {r0:Ro} (h:rs[i]?=some r0) (r:Ro):(rs.set i r)[i]?=some r:=by
 have h1:=(List.getElem?_eq_some_iff.1 h).1
 rw [List.getElem?_set,if_pos rfl,if_pos h1]
section
variable {B i g c n:Nat} {rs:List Ro} {w wr:World} {d:Array Int} {r0:Ro}
theorem SAt.cell (h:SAt B i g c n rs w wr d) (hr:rs[i]?=some r0) {t:Nat} (ht:t<n):wr.cell? ⟨g,t,none⟩=some (.int .u32 d[t]!) :=
 h.ow.cell (srow_at hr (srow g c n d)) (by
  have h1:t<d.size:=by rw [h.sz];exact ht
  show (d.toList.map (Value.int .u32))[t]?=_
  rw [List.getElem?_map,Array.getElem?_toList,Array.getElem?_eq_getElem h1,getElem!_pos d t h1]
  rfl)
theorem SAt.frz (h:SAt B i g c n rs w wr d) (hr:rs[i]?=some r0) (t:Nat):wr.frozen? ⟨g,t,none⟩=false:=h.ow.frozen (srow_at hr (srow g c n d)) t
theorem SAt.base (h:SAt B i g c n rs w wr d) (hr:rs[i]?=some r0):B≤g∧g<wr.heap.size:=h.ow.base (srow_at hr (srow g c n d))
theorem srt_below {B:Nat} {a w:World} (n:Nat) (h:Below B a w):Below B a (w.drewN n):=⟨h.os,h.tape,h.output,h.size,h.block⟩
theorem SAt.drewN (h:SAt B i g c n rs w wr d) (m:Nat):SAt B i g c n rs w (wr.drewN m) d:=⟨h.sz,h.ow,srt_below m h.bl⟩
theorem SAt.drew (h:SAt B i g c n rs w wr d):SAt B i g c n rs w wr.drew d:=⟨h.sz,h.ow,h.bl.drew⟩
theorem SAt.one (h:SAt B i g c n rs w wr d) (hr:rs[i]?=some r0) {t:Nat} (ht:t<n) (x:Int):SAt B i g c n rs w (wr.setCell ⟨g,t,none⟩ (.int .u32 x)) (d.setIfInBounds t x):=by
 have h1:t<d.size:=by rw [h.sz];exact ht
 have h2:=h.ow.store (srow_at hr (srow g c n d)) (j:=t) (by rw [List.length_map,Array.length_toList];exact h1) (.int .u32 x)
 rw [List.set_set] at h2
 refine ⟨by rw [Array.size_setIfInBounds];exact h.sz,?_,h.bl.setCell (p:=⟨g,t,none⟩) (h.base hr).1 _⟩
 unfold srow
 rw [Array.toList_setIfInBounds,List.map_set]
 exact h2
theorem SAt.swap (h:SAt B i g c n rs w wr d) (hr:rs[i]?=some r0) {j k:Nat} (hj:j<n) (hk:k<n) {x y:Int} (hx:x=d[k]!) (hy:y=d[j]!):SAt B i g c n rs w ((wr.setCell ⟨g,j,none⟩ (.int .u32 x)).setCell ⟨g,k,none⟩ (.int .u32 y)) (swp d j k):=by
 subst hx hy
 exact (h.one hr hj _).one hr hk _
theorem SAt.start (hr:rs[i]?=some (srow g c n d)) (hd:d.size=n) (hO:Owns w B rs):SAt B i g c n rs w w d:=by
 refine ⟨hd,?_,Below.refl _ _⟩
 have:rs.set i (srow g c n d)=rs:=by
  apply List.ext_getElem?
  intro j
  rw [List.getElem?_set]
  split
  ·rename_i e
   subst e
   rw [if_pos (List.getElem?_eq_some_iff.1 hr).1,hr]
  ·rfl
 rw [this]
 exact hO
end
theorem srt_nan (x:Int) (w:World):Calls Tryz.prog 170 #[.int .u32 x] w fun e w'=>e=.returned (.bool false)∧w'=w:=by
 go_enter Tryz.func170,Tryz.ntmps170
 go_wp2
 go_ret
 exact ⟨by simp,rfl⟩
theorem srt_less (x y:Int) (w:World):Calls Tryz.prog 143 #[.int .u32 x,.int .u32 y] w fun e w'=>e=.returned (.bool (ltInt x y))∧w'=w:=by
 go_enter Tryz.func143,Tryz.ntmps143
 go_wp2_with (go_at_call 170;refine (srt_nan _ _).mono ?_;rintro e w' ⟨rfl,rfl⟩)
 go_ret
 exact ⟨rfl,rfl⟩
set_option maxHeartbeats 4000000 in
theorem srt_ins (B i g c n a b:Nat) (rs:List Ro) (w wr:World) (d:Array Int) (r0:Ro) (h:SAt B i g c n rs w wr d) (hr:rs[i]?=some r0) (hab:a≤b) (hb:b≤n) (hn:n<4611686018427387904) :
  Calls Tryz.prog 137 #[.slice (some ⟨g,0,none⟩) n c,.int .i64 a,.int .i64 b] wr fun e w'=>e=.returned (.tuple #[])∧SAt B i g c n rs w w' (Go.Sort.insertionSort ltInt d a b):=by
 have HS:=hide_ h
 have HR:=hide_ hr
 clear h hr
 go_enter Tryz.func137,Tryz.ntmps137
 go_wp2
 go_loopw [6] (fun vi W=>∃ (p:Nat) (dk:Array Int),vi=.int .i64 p∧a<p∧p≤b+1∧Hid (SAt B i g c n rs w W dk)∧insOuter ltInt a b p dk=insOuter ltInt a b (a+1) d) (fun vi _=>b+1 - (intOf vi).toNat)
 case atStart=>exact ⟨a+1,d,by go_num,by omega,by omega,HS,rfl⟩
 case round =>
  clear HS
  obtain ⟨p,dk,rfl,hap,hpb,HS,hO⟩:=hrel
  have HO:=hide_ hO
  clear hO
  by_cases hlt:p<b
  ·go_wp2
   go_loopw [7] (fun vj W=>∃ (j:Nat) (dj:Array Int),vj=.int .i64 j∧a≤j∧j≤p∧Hid (SAt B i g c n rs w W dj)∧insInner ltInt a j dj=insInner ltInt a p dk) (fun vj _=>(intOf vj).toNat)
   case atStart=>exact ⟨p,dk,rfl,by omega,Nat.le_refl _,HS,rfl⟩
   case round =>
    clear HS
    obtain ⟨j,dj,rfl,haj,hjp,HS,hI⟩:=hrel
    have HI:=hide_ hI
    clear hI
    have OUT:=hide_ (fun (hs:j≤a∨ltInt dj[j]! dj[j - 1]! = false)=>show insOuter ltInt a b (p+1) dj=insOuter ltInt a b (a+1) d by
     rw [← HO.out,insOuter_go _ _ _ _ _ hlt,← HI.out,insInner_stop _ _ _ _ hs])
    by_cases hja:a<j
    ·obtain ⟨k,rfl⟩:∃ k,j=k+1:=⟨j - 1,by omega⟩
     obtain ⟨x,hx⟩:∃ x,x=dj[k+1]! := ⟨_,rfl⟩
     obtain ⟨y,hy⟩:∃ y,y=dj[k]! := ⟨_,rfl⟩
     have c0:=HS.out.cell HR.out (t:=k+1) (by omega)
     have c1:=HS.out.cell HR.out (t:=k) (by omega)
     have f0:=HS.out.frz HR.out (k+1)
     have f1:=HS.out.frz HR.out k
     rw [← hx] at c0
     rw [← hy] at c1
     have HX:=hide_ (And.intro hx hy)
     have jz1:decide ((a:Int)<(k:Int)+1)=true:=decide_eq_true (by omega)
     have jz2:(a:Int)<(k:Int)+1:=by omega
     have jz3:decide (a<k+1)=true:=decide_eq_true hja
     clear hx hy
     go_wp2
     go_big_quiet (first | (go_at_call 143;refine Calls.quiet_of_same (srt_less _ _ _)))
     go_wp2
     ·have hl:ltInt x y=true:=by assumption
      have hsw:=fun (W':World) (h:SAt B i g c n rs w W' dj)=>h.swap HR.out (j:=k+1) (k:=k) (by omega) (by omega) HX.out.2 HX.out.1
      have HSW:=hide_ hsw
      clear hsw
      go_region
      all_goals go_wp2
      go_roundw
      case rel =>
       refine ⟨k,swp dj (k+1) k,by go_num,by omega,by omega,?_,?_⟩
       ·first
         | exact hide_ (HSW.out _ (HS.out.drewN _))
         | exact hide_ (HSW.out _ (HS.out.drewN _)).drew
         | exact hide_ (HSW.out _ HS.out)
       ·rw [← HI.out,insInner_go ltInt a (k+1) dj hja (by rw [Nat.add_sub_cancel,← HX.out.1,← HX.out.2];exact hl)]
        rfl
      case measure=>simp [intOf] <;> omega
     ·have hl:ltInt x y=false:=by assumption
      go_roundw
      case rel=>exact ⟨p+1,dj,by go_num,by omega,by omega,hide_ (HS.out.drewN _),OUT.out (.inr (by rw [Nat.add_sub_cancel,← HX.out.1,← HX.out.2];exact hl))⟩
      case measure=>simp [intOf] <;> omega
    ·have hjz:decide ((a:Int)<(j:Int))=false:=decide_eq_false (by omega)
     go_wp2
     go_big_quiet (first | (go_at_call 143;refine Calls.quiet_of_same (srt_less _ _ _)))
     go_wp2
     go_roundw
     case rel=>exact ⟨p+1,dj,by go_num,by omega,by omega,hide_ (HS.out.drewN _),OUT.out (.inl (by omega))⟩
     case measure=>simp [intOf] <;> omega
  ·go_wp2
   go_end0
   refine ⟨rfl,?_⟩
   unfold Go.Sort.insertionSort
   rw [← HO.out,insOuter_stop _ _ _ _ _ hlt]
   exact HS.out
set_option maxHeartbeats 4000000 in
theorem srt_rev (B i g c n a b:Nat) (rs:List Ro) (w wr:World) (d:Array Int) (r0:Ro) (h:SAt B i g c n rs w wr d) (hr:rs[i]?=some r0) (hab:a≤b) (hb:b≤n) (hn:n<4611686018427387904) :
  Calls Tryz.prog 141 #[.slice (some ⟨g,0,none⟩) n c,.int .i64 a,.int .i64 b] wr fun e w'=>e=.returned (.tuple #[])∧SAt B i g c n rs w w' (Go.Sort.reverseRange d a b):=by
 have HS:=hide_ h
 have HR:=hide_ hr
 clear h hr
 go_enter Tryz.func141,Tryz.ntmps141
 go_wp2
 go_loopg [6,7] (b - a) (fun K s6 s7 W=>∃ (p q:Nat) (qz:Int) (dk:Array Int),s6=.int .i64 p∧s7=.int .i64 qz∧((p:Int)<qz→qz=q∧q<n)∧(¬ (p:Int)<qz→¬ p<q)∧q - p≤K∧Hid (SAt B i g c n rs w W dk)∧reverseLoop p q dk=reverseLoop a (b - 1) d)
 case atStart=>exact ⟨a,b - 1,(b:Int) - 1,d,rfl,rfl,fun h=>⟨by omega,by omega⟩,fun h=>by omega,by omega,HS,rfl⟩
 case round =>
  clear HS
  obtain ⟨p,q,qz,dk,rfl,rfl,h1,h2,hk,HS,heq⟩:=hrel
  by_cases hlt:(p:Int)<qz
  ·obtain ⟨rfl,hq⟩:=h1 hlt
   have hpq:p<q:=by omega
   obtain ⟨x,hx⟩:∃ x,x=dk[p]! := ⟨_,rfl⟩
   obtain ⟨y,hy⟩:∃ y,y=dk[q]! := ⟨_,rfl⟩
   have c0:=HS.out.cell HR.out (t:=p) (by omega)
   have c1:=HS.out.cell HR.out (t:=q) (by omega)
   have f0:=HS.out.frz HR.out p
   have f1:=HS.out.frz HR.out q
   rw [← hx] at c0
   rw [← hy] at c1
   have HSW:=hide_ (fun (W':World) (h:SAt B i g c n rs w W' dk)=>h.swap HR.out (j:=p) (k:=q) (by omega) (by omega) hy hx)
   have HE:=hide_ heq
   clear hx hy h1 h2 heq
   go_wp2_with fail
   go_region
   go_wp2
   go_roundg (q - 1 - (p+1))
   case measure=>omega
   case rel =>
    refine ⟨p+1,q - 1,(q:Int) - 1,swp dk p q,by go_num,rfl,fun h=>⟨by omega,by omega⟩,fun h=>by omega,Nat.le_refl _,?_,?_⟩
    ·first
      | exact hide_ (HSW.out _ HS.out).drew
      | exact hide_ (HSW.out _ (HS.out.drewN _))
      | exact hide_ (HSW.out _ HS.out)
    ·have h9:=HE.out
     rw [reverseLoop,if_pos hpq] at h9
     exact h9
  ·have hnot:=h2 hlt
   go_wp2
   go_end0
   refine ⟨rfl,?_⟩
   rw [reverseLoop,if_neg hnot] at heq
   rw [Go.Sort.reverseRange,← heq]
   exact HS.out
end Go.Proofs.YtikbegmodacopaaGreatDoor
namespace Go.Proofs.YtikbegmodacopaaGreatDoor
open Go.RowKit Go.PlainAid Go.BigFrame
open Go.Sort (swp ltInt siftDown heapBuild heapPop sd_end sd_right_stop sd_right_go sd_left_stop sd_left_go size_siftDown size_swp)
set_option linter.unusedSimpArgs false
set_option linter.unusedVariables false
set_option maxRecDepth 100000
set_option maxHeartbeats 8000000 in
theorem srt_sift (B i g c n lo hi first:Nat) (rs:List Ro) (w wr:World) (d:Array Int) (r0:Ro) (h:SAt B i g c n rs w wr d) (hr:rs[i]?=some r0) (hlo:lo≤hi) (hb:first+hi≤n) (hn:n<4611686018427387904) :
  Calls Tryz.prog 165 #[.slice (some ⟨g,0,none⟩) n c,.int .i64 lo,.int .i64 hi,.int .i64 first] wr fun e w'=>e=.returned (.tuple #[])∧SAt B i g c n rs w w' (siftDown ltInt hi first lo d):=by
 have HS:=hide_ h
 have HR:=hide_ hr
 clear h hr
 go_enter Tryz.func165,Tryz.ntmps165
 go_wp2
 go_loopg [8] (hi - lo) (fun K s8 W=>∃ (root:Nat) (dk:Array Int),s8=.int .i64 root∧root≤hi∧hi - root≤K∧Hid (SAt B i g c n rs w W dk)∧siftDown ltInt hi first root dk=siftDown ltInt hi first lo d)
 case atStart=>exact ⟨lo,d,rfl,hlo,Nat.le_refl _,HS,rfl⟩
 case round =>
  clear HS
  obtain ⟨root,dk,rfl,hr,hk,HS,heq⟩:=hrel
  have HE:=hide_ heq
  clear heq
  by_cases h0:hi≤2 * root+1
  ·have h0z:(hi:Int)≤2 * (root:Int)+1:=by omega
   go_wp2
   go_end0
   refine ⟨rfl,?_⟩
   rw [← HE.out,sd_end ltInt dk h0]
   exact HS.out
  ·have h0z:¬ ((hi:Int)≤2 * (root:Int)+1):=by omega
   obtain ⟨x,hx⟩:∃ x,x=dk[first+root]! := ⟨_,rfl⟩
   obtain ⟨y,hy⟩:∃ y,y=dk[first+(2 * root+1)]! := ⟨_,rfl⟩
   obtain ⟨z,hz⟩:∃ z,z=dk[first+(2 * root+2)]! := ⟨_,rfl⟩
   have cx:=HS.out.cell HR.out (t:=first+root) (by omega)
   have cy:=HS.out.cell HR.out (t:=first+(2 * root+1)) (by omega)
   have fx:=HS.out.frz HR.out (first+root)
   have fy:=HS.out.frz HR.out (first+(2 * root+1))
   have fz:=HS.out.frz HR.out (first+(2 * root+2))
   rw [← hx] at cx
   rw [← hy] at cy
   have HX:=hide_ (And.intro hx (And.intro hy hz))
   clear hx hy hz
   by_cases h1:2 * root+2<hi
   ·have h1z:2 * (root:Int)+1+1<(hi:Int):=by omega
    have cz:=HS.out.cell HR.out (t:=first+(2 * root+2)) (by omega)
    rw [← HX.out.2.2] at cz
    have cz2:wr.cell? ⟨g,first+(2 * root+1)+1,none⟩=some (.int .u32 z):=cz
    have cz3:wr.cell? ⟨g,first+(2 * root+1+1),none⟩=some (.int .u32 z):=cz
    have fz2:wr.frozen? ⟨g,first+(2 * root+1)+1,none⟩=false:=fz
    have fz3:wr.frozen? ⟨g,first+(2 * root+1+1),none⟩=false:=fz
    go_wp2_with fail
    go_big_quiet (first | (go_at_call 143;refine Calls.quiet_of_same (srt_less _ _ _)))
    go_wp2_with fail
    ·have hL:ltInt y z=true:=by assumption
     revert nq
     intro nq1
     have HS:=hide_ (HS.out.drewN nq1)
     have cx:(wr.drewN nq1).cell? ⟨g,first+root,none⟩=some (.int .u32 x):=cx
     have cy:(wr.drewN nq1).cell? ⟨g,first+(2 * root+1),none⟩=some (.int .u32 y):=cy
     have cz:(wr.drewN nq1).cell? ⟨g,first+(2 * root+2),none⟩=some (.int .u32 z):=cz
     have cz2:(wr.drewN nq1).cell? ⟨g,first+(2 * root+1)+1,none⟩=some (.int .u32 z):=cz2
     have cz3:(wr.drewN nq1).cell? ⟨g,first+(2 * root+1+1),none⟩=some (.int .u32 z):=cz3
     have fx:(wr.drewN nq1).frozen? ⟨g,first+root,none⟩=false:=fx
     have fy:(wr.drewN nq1).frozen? ⟨g,first+(2 * root+1),none⟩=false:=fy
     have fz2:(wr.drewN nq1).frozen? ⟨g,first+(2 * root+1)+1,none⟩=false:=fz2
     have fz3:(wr.drewN nq1).frozen? ⟨g,first+(2 * root+1+1),none⟩=false:=fz3
     generalize wr.drewN nq1=wr2 at HS cx cy cz cz2 cz3 fx fy fz2 fz3 ⊢
     go_big_quiet (first | (go_at_call 143;refine Calls.quiet_of_same (srt_less _ _ _)))
     go_wp2_with fail
     ·have hS:ltInt x z=false:=by
       have:(!ltInt x z)=true:=by assumption
       simpa using this
      (try simp only [Exit.inBlock,Exit.then])
      refine bodyPost_ret (results_none rfl _ _ _) rfl ?_
      refine ⟨rfl,?_⟩
      rw [← HE.out,sd_right_stop ltInt dk h1 (by rw [← HX.out.2.1,← HX.out.2.2];exact hL) (by rw [← HX.out.1,← HX.out.2.2];exact hS)]
      exact (HS.out.drewN nq)
     ·have hG:ltInt x z=true:=by
       have:(!ltInt x z)=false:=by assumption
       simpa using this
      have HSW:=hide_ (fun (W':World) (h:SAt B i g c n rs w W' dk)=>h.swap HR.out (j:=first+root) (k:=first+(2 * root+2)) (by omega) (by omega) HX.out.2.2 HX.out.1)
      go_region
      go_wp2
      go_roundg (hi - (2 * root+2))
      case measure=>omega
      case rel =>
       refine ⟨2 * root+2,swp dk (first+root) (first+(2 * root+2)),by first | rfl | (simp;done) | (simp <;> omega),by omega,Nat.le_refl _,?_,?_⟩
       ·first
         | exact hide_ (HSW.out _ (HS.out.drewN nq)).drew
         | exact hide_ (HSW.out _ ((HS.out.drewN nq)).drew)
         | exact hide_ (HSW.out _ ((HS.out.drewN nq).drewN _))
         | exact hide_ (HSW.out _ (HS.out.drewN nq))
       ·rw [← HE.out,sd_right_go ltInt dk h1 (by rw [← HX.out.2.1,← HX.out.2.2];exact hL) (by rw [← HX.out.1,← HX.out.2.2];exact hG)]
    ·have hL:ltInt y z=false:=by assumption
     revert nq
     intro nq1
     have HS:=hide_ (HS.out.drewN nq1)
     have cx:(wr.drewN nq1).cell? ⟨g,first+root,none⟩=some (.int .u32 x):=cx
     have cy:(wr.drewN nq1).cell? ⟨g,first+(2 * root+1),none⟩=some (.int .u32 y):=cy
     have cz:(wr.drewN nq1).cell? ⟨g,first+(2 * root+2),none⟩=some (.int .u32 z):=cz
     have cz2:(wr.drewN nq1).cell? ⟨g,first+(2 * root+1)+1,none⟩=some (.int .u32 z):=cz2
     have cz3:(wr.drewN nq1).cell? ⟨g,first+(2 * root+1+1),none⟩=some (.int .u32 z):=cz3
     have fx:(wr.drewN nq1).frozen? ⟨g,first+root,none⟩=false:=fx
     have fy:(wr.drewN nq1).frozen? ⟨g,first+(2 * root+1),none⟩=false:=fy
     have fz2:(wr.drewN nq1).frozen? ⟨g,first+(2 * root+1)+1,none⟩=false:=fz2
     have fz3:(wr.drewN nq1).frozen? ⟨g,first+(2 * root+1+1),none⟩=false:=fz3
     generalize wr.drewN nq1=wr2 at HS cx cy cz cz2 cz3 fx fy fz2 fz3 ⊢
     go_big_quiet (first | (go_at_call 143;refine Calls.quiet_of_same (srt_less _ _ _)))
     go_wp2_with fail
     ·have hS:ltInt x y=false:=by
       have:(!ltInt x y)=true:=by assumption
       simpa using this
      (try simp only [Exit.inBlock,Exit.then])
      refine bodyPost_ret (results_none rfl _ _ _) rfl ?_
      refine ⟨rfl,?_⟩
      rw [← HE.out,sd_left_stop ltInt dk (by omega) (fun _=>(by rw [← HX.out.2.1,← HX.out.2.2];exact hL)) (by rw [← HX.out.1,← HX.out.2.1];exact hS)]
      exact (HS.out.drewN nq)
     ·have hG:ltInt x y=true:=by
       have:(!ltInt x y)=false:=by assumption
       simpa using this
      have HSW:=hide_ (fun (W':World) (h:SAt B i g c n rs w W' dk)=>h.swap HR.out (j:=first+root) (k:=first+(2 * root+1)) (by omega) (by omega) HX.out.2.1 HX.out.1)
      go_region
      go_wp2
      go_roundg (hi - (2 * root+1))
      case measure=>omega
      case rel =>
       refine ⟨2 * root+1,swp dk (first+root) (first+(2 * root+1)),by first | rfl | (simp;done) | (simp <;> omega),by omega,Nat.le_refl _,?_,?_⟩
       ·first
         | exact hide_ (HSW.out _ (HS.out.drewN nq)).drew
         | exact hide_ (HSW.out _ ((HS.out.drewN nq)).drew)
         | exact hide_ (HSW.out _ ((HS.out.drewN nq).drewN _))
         | exact hide_ (HSW.out _ (HS.out.drewN nq))
       ·rw [← HE.out,sd_left_go ltInt dk (by omega) (fun _=>(by rw [← HX.out.2.1,← HX.out.2.2];exact hL)) (by rw [← HX.out.1,← HX.out.2.1];exact hG)]
   ·have h1z:decide (2 * (root:Int)+1+1<(hi:Int))=false:=decide_eq_false (by omega)
    go_wp2_with fail
    go_big_quiet (first | (go_at_call 143;refine Calls.quiet_of_same (srt_less _ _ _)))
    go_wp2_with fail
    revert nq
    intro nq1
    have HS:=hide_ (HS.out.drewN nq1)
    have cx:(wr.drewN nq1).cell? ⟨g,first+root,none⟩=some (.int .u32 x):=cx
    have cy:(wr.drewN nq1).cell? ⟨g,first+(2 * root+1),none⟩=some (.int .u32 y):=cy
    have fx:(wr.drewN nq1).frozen? ⟨g,first+root,none⟩=false:=fx
    have fy:(wr.drewN nq1).frozen? ⟨g,first+(2 * root+1),none⟩=false:=fy
    generalize wr.drewN nq1=wr2 at HS cx cy fx fy ⊢
    go_big_quiet (first | (go_at_call 143;refine Calls.quiet_of_same (srt_less _ _ _)))
    go_wp2_with fail
    ·have hS:ltInt x y=false:=by
      have:(!ltInt x y)=true:=by assumption
      simpa using this
     (try simp only [Exit.inBlock,Exit.then])
     refine bodyPost_ret (results_none rfl _ _ _) rfl ?_
     refine ⟨rfl,?_⟩
     rw [← HE.out,sd_left_stop ltInt dk (by omega) (fun h=>absurd h h1) (by rw [← HX.out.1,← HX.out.2.1];exact hS)]
     exact (HS.out.drewN nq)
    ·have hG:ltInt x y=true:=by
      have:(!ltInt x y)=false:=by assumption
      simpa using this
     have HSW:=hide_ (fun (W':World) (h:SAt B i g c n rs w W' dk)=>h.swap HR.out (j:=first+root) (k:=first+(2 * root+1)) (by omega) (by omega) HX.out.2.1 HX.out.1)
     go_region
     go_wp2
     go_roundg (hi - (2 * root+1))
     case measure=>omega
     case rel =>
      refine ⟨2 * root+1,swp dk (first+root) (first+(2 * root+1)),by first | rfl | (simp;done) | (simp <;> omega),by omega,Nat.le_refl _,?_,?_⟩
      ·first
        | exact hide_ (HSW.out _ (HS.out.drewN nq)).drew
        | exact hide_ (HSW.out _ ((HS.out.drewN nq)).drew)
        | exact hide_ (HSW.out _ ((HS.out.drewN nq).drewN _))
        | exact hide_ (HSW.out _ (HS.out.drewN nq))
      ·rw [← HE.out,sd_left_go ltInt dk (by omega) (fun h=>absurd h h1) (by rw [← HX.out.1,← HX.out.2.1];exact hG)]
end Go.Proofs.YtikbegmodacopaaGreatDoor
namespace Go.Proofs.YtikbegmodacopaaGreatDoor
open Go.RowKit Go.PlainAid Go.BigFrame
open Go.Sort (swp ltInt siftDown heapBuild heapPop heapSort)
set_option linter.unusedSimpArgs false
set_option linter.unusedVariables false
set_option maxRecDepth 100000
set_option maxHeartbeats 8000000 in
theorem srt_heap (B i g c n a b:Nat) (rs:List Ro) (w wr:World) (d:Array Int) (r0:Ro) (h:SAt B i g c n rs w wr d) (hr:rs[i]?=some r0) (hab:a≤b) (hb:b≤n) (hn:n<4611686018427387904) :
  Calls Tryz.prog 138 #[.slice (some ⟨g,0,none⟩) n c,.int .i64 a,.int .i64 b] wr fun e w'=>e=.returned (.tuple #[])∧SAt B i g c n rs w w' (heapSort ltInt d a b):=by
 have HS:=hide_ h
 have HR:=hide_ hr
 have ecast:((b - a:Nat):Int)=(b:Int) - (a:Int):=by omega
 have SIFT:=hide_ (fun (lo hi first:Nat) (W:World) (dk:Array Int) (h:SAt B i g c n rs w W dk) (hlo:lo≤hi) (hb:first+hi≤n)=>srt_sift B i g c n lo hi first rs w W dk r0 h hr hlo hb hn)
 clear h hr
 go_enter Tryz.func138,Tryz.ntmps138
 go_wp2
 go_loopg [9] ((b - a - 1) / 2+1) (fun K s9 W=>s9=.int .i64 ((K:Int) - 1)∧K≤(b - a - 1) / 2+1∧∃ dk:Array Int,Hid (SAt B i g c n rs w W dk)∧heapBuild ltInt (b - a) a K dk=heapBuild ltInt (b - a) a ((b - a - 1) / 2+1) d)
 case atStart=>exact ⟨by rw [half_start hab],Nat.le_refl _,d,HS,rfl⟩
 case round =>
  clear HS
  obtain ⟨rfl,hkk,dk,HS,heq⟩:=hrel
  cases gk with
  | zero =>
   have HD:=hide_ (show dk=heapBuild ltInt (b - a) a ((b - a - 1) / 2+1) d from heq)
   clear heq hkk
   go_wp2
   go_loopg [10] (b - a) (fun K s10 W=>s10=.int .i64 ((K:Int) - 1)∧K≤b - a∧∃ dj:Array Int,Hid (SAt B i g c n rs w W dj)∧heapPop ltInt a K dj=heapPop ltInt a (b - a) dk)
   case atStart=>exact ⟨by rw [ecast],Nat.le_refl _,dk,HS,rfl⟩
   case round =>
    clear HS
    obtain ⟨rfl,hkk,dj,HS,heq2⟩:=hrel
    cases gk with
    | zero =>
     go_wp2
     go_end0
     refine ⟨rfl,?_⟩
     have e:dj=heapSort ltInt d a b:=by rw [heapSort,← HD.out,← heq2];rfl
     rw [← e]
     exact HS.out
    | succ k =>
     have HE:=hide_ heq2
     clear heq2
     obtain ⟨x,hx⟩:∃ x,x=dj[a]! := ⟨_,rfl⟩
     obtain ⟨y,hy⟩:∃ y,y=dj[a+k]! := ⟨_,rfl⟩
     have c0:=HS.out.cell HR.out (t:=a) (by omega)
     have c1:=HS.out.cell HR.out (t:=a+k) (by omega)
     have f0:=HS.out.frz HR.out a
     have f1:=HS.out.frz HR.out (a+k)
     rw [← hx] at c0
     rw [← hy] at c1
     have HX:=hide_ (And.intro hx hy)
     clear hx hy
     have HSW:=hide_ (fun (W':World) (h:SAt B i g c n rs w W' dj)=>h.swap HR.out (j:=a) (k:=a+k) (by omega) (by omega) HX.out.2 HX.out.1)
     rcases Nat.eq_zero_or_pos k with hk0 | hkp
     ·subst hk0
      go_wp2_with fail
      go_region
      go_wp2_with fail
      have HSZ:=hide_ (fun (W':World) (h:SAt B i g c n rs w W' dj)=>h.swap HR.out (j:=a) (k:=a) (by omega) (by omega) HX.out.1 HX.out.1)
      refine (SIFT.out 0 0 a _ (swp dj a (a+0)) (by first | exact (HSZ.out _ HS.out).drew | exact HSZ.out _ HS.out.drew | exact HSZ.out _ (HS.out.drewN _)) (Nat.zero_le _) (by omega)).mono ?_
      rintro e w1 ⟨rfl,hs1⟩
      have HS1:=hide_ hs1
      clear hs1 HS
      go_wp2
      go_roundg 0
      case measure=>omega
      case rel=>exact ⟨by simp,by omega,siftDown ltInt 0 a 0 (swp dj a (a+0)),HS1,HE.out⟩
     ·go_wp2_with fail
      go_region
      go_wp2_with fail
      refine (SIFT.out 0 k a _ (swp dj a (a+k)) (by first | exact (HSW.out _ HS.out).drew | exact HSW.out _ HS.out.drew | exact HSW.out _ (HS.out.drewN _)) (Nat.zero_le _) (by omega)).mono ?_
      rintro e w1 ⟨rfl,hs1⟩
      have HS1:=hide_ hs1
      clear hs1 HS
      go_wp2
      go_roundg k
      case measure=>omega
      case rel=>exact ⟨by simp,by omega,siftDown ltInt k a 0 (swp dj a (a+k)),HS1,HE.out⟩
  | succ k =>
   have hcall:=SIFT.out k (b - a) a wr dk HS.out (by omega) (by omega)
   rw [ecast] at hcall
   have HC:=hide_ hcall
   clear hcall
   go_wp2_with fail
   refine HC.out.mono ?_
   rintro e w1 ⟨rfl,hs1⟩
   have HS1:=hide_ hs1
   clear hs1 HC HS
   go_wp2
   go_roundg k
   case measure=>omega
   case rel=>exact ⟨by simp,by omega,siftDown ltInt (b - a) a k dk,HS1,heq⟩
end Go.Proofs.YtikbegmodacopaaGreatDoor
namespace Go.Proofs.YtikbegmodacopaaGreatDoor
open Go.RowKit Go.PlainAid Go.BigFrame
open Go.Sort (swp ltInt scanUp scanDown partEqLoop partitionEqual)
set_option linter.unusedSimpArgs false
set_option linter.unusedVariables false
set_option maxRecDepth 100000
set_option maxHeartbeats 4000000 in
theorem srt_parteq (B ix g c n a b pv:Nat) (rs:List Ro) (w wr:World) (d:Array Int) (r0:Ro) (h:SAt B ix g c n rs w wr d) (hr:rs[ix]?=some r0) (hap:a≤pv) (hpb:pv<b) (hb:b≤n) (hn:n<4611686018427387904) :
  Calls Tryz.prog 144 #[.slice (some ⟨g,0,none⟩) n c,.int .i64 a,.int .i64 b,.int .i64 pv] wr fun e w'=>e=.returned (.int .i64 ((partitionEqual ltInt d a b pv).1:Nat))∧SAt B ix g c n rs w w' (partitionEqual ltInt d a b pv).2:=by
 obtain ⟨x,hx⟩:∃ x,x=d[a]! := ⟨_,rfl⟩
 obtain ⟨y,hy⟩:∃ y,y=d[pv]! := ⟨_,rfl⟩
 have ca:=h.cell hr (t:=a) (by omega)
 have cp:=h.cell hr (t:=pv) (by omega)
 have fa:=h.frz hr a
 have fp:=h.frz hr pv
 rw [← hx] at ca
 rw [← hy] at cp
 obtain ⟨v',hy'⟩:=cell?_setCell_some (w:=wr) (p:=⟨g,a,none⟩) (x:=.int .u32 y) (q:=⟨g,pv,none⟩) cp
 have HSW:=hide_ (fun (W':World) (h:SAt B ix g c n rs w W' d)=>h.swap hr (j:=a) (k:=pv) (by omega) (by omega) hy hx)
 have HS:=hide_ h
 have HR:=hide_ hr
 clear h hr hx hy
 go_enter Tryz.func144,Tryz.ntmps144
 go_wp2
 go_region
 go_wp2
 go_loopw [9,10] (fun vi vj W=>∃ (i j:Nat) (dk:Array Int),vi=.int .i64 i∧vj=.int .i64 j∧a<i∧i≤j+1∧j<b∧Hid (SAt B ix g c n rs w W dk)∧Hid (partEqLoop ltInt a i j dk=partEqLoop ltInt a (a+1) (b - 1) (swp d a pv))) (fun vi vj _=>(intOf vj).toNat+1 - (intOf vi).toNat)
 case atStart =>
  refine ⟨a+1,b - 1,swp d a pv,by go_num,by go_num,by omega,by omega,by omega,?_,hide_ rfl⟩
  first
   | exact hide_ (HSW.out _ HS.out).drew
   | exact hide_ (HSW.out _ HS.out.drew)
   | exact hide_ (HSW.out _ (HS.out.drewN _))
 case round =>
  clear ca fa cp fp hy' HSW HS v'
  obtain ⟨i,j,dk,rfl,rfl,hai,hij,hjb,HS,HE⟩:=hrel
  obtain ⟨x0,hx0⟩:∃ x,x=dk[a]! := ⟨_,rfl⟩
  have HX0:=hide_ hx0
  clear hx0
  go_wp2
  go_loopw [9] (fun vi W=>∃ i':Nat,vi=.int .i64 i'∧i≤i'∧i'≤j+1∧Hid (SAt B ix g c n rs w W dk)∧Hid (scanUp (fun x=>!ltInt dk[a]! x) dk j i'=scanUp (fun x=>!ltInt dk[a]! x) dk j i)) (fun vi _=>j+1 - (intOf vi).toNat)
  case atStart=>exact ⟨i,rfl,Nat.le_refl _,hij,HS,hide_ rfl⟩
  case round =>
   clear HS
   obtain ⟨i',rfl,hii,hij',HS,HU⟩:=hrel
   have DOWN:∀ (W:World),SAt B ix g c n rs w W dk→True:=fun _ _=>trivial
   clear DOWN
   by_cases hle:i'≤j
   ·obtain ⟨y1,hy1⟩:∃ x,x=dk[i']! := ⟨_,rfl⟩
    have c0:=HS.out.cell HR.out (t:=a) (by omega)
    have c1:=HS.out.cell HR.out (t:=i') (by omega)
    rw [← HX0.out] at c0
    rw [← hy1] at c1
    have HY1:=hide_ hy1
    clear hy1
    have gz:decide ((i':Int)≤(j:Int))=true:=decide_eq_true (by omega)
    go_wp2_with fail
    go_big_quiet (first | (go_at_call 143;refine Calls.quiet_of_same (srt_less _ _ _)))
    go_wp2
    ·have ht:(!ltInt x0 y1)=true:=by assumption
     go_roundw
     case rel=>exact ⟨i' + 1,by go_num,by omega,by omega,hide_ (HS.out.drewN _),hide_ ((scanUp_go (fun x=>!ltInt dk[a]! x) dk j i' hle (by show (!ltInt dk[a]! dk[i']!)=true;rw [← HX0.out,← HY1.out];exact ht)).symm.trans HU.out)⟩
     case measure=>simp [intOf] <;> omega
    ·have ht:(!ltInt x0 y1)=false:=by assumption
     have HI2:=hide_ ((scanUp_end (fun x=>!ltInt dk[a]! x) dk j i' (.inr (by show (!ltInt dk[a]! dk[i']!)=false;rw [← HX0.out,← HY1.out];exact ht))).symm.trans HU.out)
     have HS2:=hide_ (HS.out.drewN nq)
     clear ht c0 c1 HS HU
     go_loopw [10] (fun vj W=>∃ j':Nat,vj=.int .i64 j'∧j'≤j∧i'≤j' + 1∧Hid (SAt B ix g c n rs w W dk)∧Hid (scanDown (fun x=>ltInt dk[a]! x) dk i' j'=scanDown (fun x=>ltInt dk[a]! x) dk i' j)) (fun vj _=>(intOf vj).toNat)
     case atStart=>exact ⟨j,rfl,Nat.le_refl _,hij',HS2,hide_ rfl⟩
     case round =>
      clear HS2
      obtain ⟨j',rfl,hjj,hij2,HS,HDN⟩:=hrel
      by_cases hle2:i'≤j'
      ·obtain ⟨y2,hy2⟩:∃ x,x=dk[j']! := ⟨_,rfl⟩
       obtain ⟨z2,hz2⟩:∃ x,x=dk[i']! := ⟨_,rfl⟩
       have c0:=HS.out.cell HR.out (t:=a) (by omega)
       have c1:=HS.out.cell HR.out (t:=j') (by omega)
       have c2:=HS.out.cell HR.out (t:=i') (by omega)
       have f1:=HS.out.frz HR.out j'
       have f2:=HS.out.frz HR.out i'
       rw [← HX0.out] at c0
       rw [← hy2] at c1
       rw [← hz2] at c2
       have HY2:=hide_ (And.intro hy2 hz2)
       clear hy2 hz2
       have gz2:decide ((i':Int)≤(j':Int))=true:=decide_eq_true (by omega)
       go_wp2_with fail
       go_big_quiet (first | (go_at_call 143;refine Calls.quiet_of_same (srt_less _ _ _)))
       go_wp2_with fail
       ·have ht:ltInt x0 y2=true:=by assumption
        go_wp2
        go_roundw
        case rel=>exact ⟨j' - 1,by go_num,by omega,by omega,hide_ (HS.out.drewN _),hide_ ((scanDown_go (fun x=>ltInt dk[a]! x) dk i' j' hle2 (by omega) (by show ltInt dk[a]! dk[j']! = true;rw [← HX0.out,← HY2.out.1];exact ht)).symm.trans HDN.out)⟩
        case measure=>simp [intOf] <;> omega
       ·have ht:ltInt x0 y2=false:=by assumption
        have HJ2:=hide_ ((scanDown_end (fun x=>ltInt dk[a]! x) dk i' j' (.inr (by show ltInt dk[a]! dk[j']! = false;rw [← HX0.out,← HY2.out.1];exact ht))).symm.trans HDN.out)
        have hlt:i' < j':=scans_lt ltInt a i j dk (by omega) HI2.out HJ2.out hle2
        have gz3:decide ((j':Int)<(i':Int))=false:=decide_eq_false (by omega)
        have gz4:¬ (j':Int)<(i':Int):=by omega
        have HGO:=hide_ ((partEq_go ltInt a i j dk HI2.out HJ2.out (by omega)).symm.trans HE.out)
        have HSW:=hide_ (fun (W':World) (h:SAt B ix g c n rs w W' dk)=>h.swap HR.out (j:=i') (k:=j') (by omega) (by omega) HY2.out.1 HY2.out.2)
        clear ht c0
        go_wp2_with fail
        go_region
        go_wp2
        go_roundw
        case rel =>
         refine ⟨i' + 1,j' - 1,swp dk i' j',by go_num,by go_num,by omega,by omega,by omega,?_,HGO⟩
         first
          | exact hide_ (HSW.out _ (HS.out.drewN _)).drew
          | exact hide_ (HSW.out _ (HS.out.drewN _))
          | exact hide_ (HSW.out _ (HS.out.drewN _).drew)
        case measure=>simp [intOf] <;> omega
      ·have gz2:decide ((i':Int)≤(j':Int))=false:=decide_eq_false (by omega)
       have HJ2:=hide_ ((scanDown_end (fun x=>ltInt dk[a]! x) dk i' j' (.inl hle2)).symm.trans HDN.out)
       have HBR:=hide_ ((partEq_break ltInt a i j dk HI2.out HJ2.out (by omega)).symm.trans HE.out)
       have gz3:decide ((j':Int)<(i':Int))=true:=decide_eq_true (by omega)
       have gz4:(j':Int)<(i':Int):=by omega
       go_wp2_with fail
       go_big_quiet (first | (go_at_call 143;refine Calls.quiet_of_same (srt_less _ _ _)))
       go_wp2
       go_ret
       have e:partitionEqual ltInt d a b pv=(i',dk):=HBR.out.symm
       rw [e]
       exact ⟨rfl,HS.out.drewN _⟩
   ·have gz:decide ((i':Int)≤(j:Int))=false:=decide_eq_false (by omega)
    have HI2:=hide_ ((scanUp_end (fun x=>!ltInt dk[a]! x) dk j i' (.inl hle)).symm.trans HU.out)
    go_wp2_with fail
    go_big_quiet (first | (go_at_call 143;refine Calls.quiet_of_same (srt_less _ _ _)))
    go_wp2
    have HS2:=hide_ (HS.out.drewN nq)
    clear HS HU
    go_loopw [10] (fun vj W=>∃ j':Nat,vj=.int .i64 j'∧j'≤j∧i'≤j' + 1∧Hid (SAt B ix g c n rs w W dk)∧Hid (scanDown (fun x=>ltInt dk[a]! x) dk i' j'=scanDown (fun x=>ltInt dk[a]! x) dk i' j)) (fun vj _=>(intOf vj).toNat)
    case atStart=>exact ⟨j,rfl,Nat.le_refl _,hij',HS2,hide_ rfl⟩
    case round =>
     clear HS2
     obtain ⟨j',rfl,hjj,hij2,HS,HDN⟩:=hrel
     by_cases hle2:i'≤j'
     ·exact absurd (Nat.le_trans hle2 hjj) hle
     ·have gz2:decide ((i':Int)≤(j':Int))=false:=decide_eq_false (by omega)
      have HJ2:=hide_ ((scanDown_end (fun x=>ltInt dk[a]! x) dk i' j' (.inl hle2)).symm.trans HDN.out)
      have HBR:=hide_ ((partEq_break ltInt a i j dk HI2.out HJ2.out (by omega)).symm.trans HE.out)
      have gz3:decide ((j':Int)<(i':Int))=true:=decide_eq_true (by omega)
      have gz4:(j':Int)<(i':Int):=by omega
      go_wp2_with fail
      go_big_quiet (first | (go_at_call 143;refine Calls.quiet_of_same (srt_less _ _ _)))
      go_wp2
      go_ret
      have e:partitionEqual ltInt d a b pv=(i',dk):=HBR.out.symm
      rw [e]
      exact ⟨rfl,HS.out.drewN _⟩
end Go.Proofs.YtikbegmodacopaaGreatDoor
