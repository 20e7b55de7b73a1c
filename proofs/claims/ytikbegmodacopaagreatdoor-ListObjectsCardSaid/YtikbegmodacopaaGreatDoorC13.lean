/-
  Joined and packed by program.
-/
import Derived.Test.YtikbegmodacopaaGreatDoorC12
import Derived.Lib.SlicesCompact
import Derived.Lib.SliceRun
import Derived.Test.YtikbegmodacopaaGreatDoorC09
import Derived.Test.YtikbegmodacopaaGreatDoorC04
import Derived.Test.YtikbegmodacopaaGreatDoorProg
import Derived.Test.YtikbegmodacopaaGreatDoorC01
import Derived.PlainAid
import Derived.Deep.RegionHeld3
import Derived.Lib.LaidTab
import Derived.Lib.AppendIntMem
import Derived.Test.YtikbegmodacopaaGreatDoorC03
import Derived.Deep.LoopGhost
namespace Go.Proofs.YtikbegmodacopaaGreatDoor
open Go.RowKit Go.PlainAid Go.BigFrame
open Go.Lib (keeps compactUpTo CompInv lay keeps_lt_one keeps_neg keeps_pos compactUpTo_all range_map_get)
set_option linter.unusedSimpArgs false
set_option linter.unusedVariables false
set_option maxRecDepth 100000
theorem SAt.again_ {B i g c n:Nat} {rs:List Ro} {w w1:World} {d d':Array Int} (h:SAt B i g c n rs w w1 d) (e:d=d'):SAt B i g c n rs w w1 d':=e ▸ h
theorem SAt.cells_ {B i g c n:Nat} {rs:List Ro} {w:World} {r0:Ro} (hr:rs[i]?=some r0):∀ (xs:List Int) (d:Array Int) (k:Nat) (wr:World),SAt B i g c n rs w wr d→k+xs.length≤n→SAt B i g c n rs w (wr.setCells g k (xs.map (Value.int .u32))) (lay d k xs)
 | [],_,_,_,h,_=>h
 | x :: r,d,k,wr,h,hl=>by
  have hl':k+(r.length+1)≤n:=by simpa using hl
  simp only [List.map_cons,World.setCells,lay]
  exact SAt.cells_ hr r _ (k+1) _ (h.one hr (by omega) x) (by omega)
theorem zero_u32 (w:World):(zeroValue 25).run Tryz.prog w=.ok (.int .u32 0) w:=by kernel_rfl
set_option maxHeartbeats 4000000 in
theorem srt_compact (B ix g c n:Nat) (rs:List Ro) (w wr:World) (d:Array Int) (r0:Ro) (h:SAt B ix g c n rs w wr d) (hr:rs[ix]?=some r0) (hn:n<4611686018427387904) (hcap:n≤c) :
  Calls Tryz.prog 72 #[.slice (some ⟨g,0,none⟩) n c] wr fun e w'=>e=.returned (.slice (some ⟨g,0,none⟩) (compactUpTo d n).length c)∧SAt B ix g c n rs w w' (compactUpTo d n ++ List.replicate (n - (compactUpTo d n).length) 0).toArray:=by
 have hds:d.size=n:=h.sz
 have SAME:=hide_ (fun (hall:∀ j,j<n→keeps d j=true)=>show (compactUpTo d n).length=n∧d=(compactUpTo d n ++ List.replicate (n - (compactUpTo d n).length) 0).toArray by
  have e:compactUpTo d n=d.toList:=by rw [compactUpTo_all d _ hall,← hds,range_map_get]
  rw [e]
  refine ⟨by simpa using hds,?_⟩
  simp [hds])
 have HS:=hide_ h
 have HR:=hide_ hr
 have HD:=hide_ hds
 clear h hr hds
 by_cases h2:n<2
 ·go_enter Tryz.func72,Tryz.ntmps72
  go_wp2
  go_ret
  obtain ⟨e1,e2⟩:=SAME.out (fun j hj=>keeps_lt_one d j (by omega))
  exact ⟨by rw [e1];rfl,HS.out.again_ e2⟩
 ·go_enter Tryz.func72,Tryz.ntmps72
  go_wp2
  go_loopw [3] (fun s3 W=>∃ k:Nat,s3=.int .i64 k∧1≤k∧k≤n∧Hid (SAt B ix g c n rs w W d)∧Hid (∀ j,j<k→keeps d j=true)) (fun s3 _=>n - (intOf s3).toNat)
  case atStart=>exact ⟨1,rfl,Nat.le_refl _,by omega,HS,hide_ (keeps_lt_one d)⟩
  case round =>
   clear HS
   obtain ⟨k,rfl,hk1,hk,HS,HA⟩:=hrel
   by_cases hlt:k<n
   ·obtain ⟨m,rfl⟩:∃ m,k=m+1:=⟨k - 1,by omega⟩
    obtain ⟨x,hx⟩:∃ x,x=d[m+1]! := ⟨_,rfl⟩
    obtain ⟨y,hy⟩:∃ y,y=d[m]! := ⟨_,rfl⟩
    have c0:=HS.out.cell HR.out (t:=m+1) (by omega)
    have c1:=HS.out.cell HR.out (t:=m) (by omega)
    have f0:=HS.out.frz HR.out (m+1)
    have f1:=HS.out.frz HR.out m
    rw [← hx] at c0
    rw [← hy] at c1
    have HX:=hide_ (And.intro hx hy)
    clear hx hy
    have g0:decide (m+1<n)=true:=decide_eq_true hlt
    by_cases hdup:x=y
    ·subst hdup
     have gd:(x == x)=true:=by simp
     have START:=hide_ (CompInv.start HA.out (keeps_neg (by omega) (by rw [Nat.add_sub_cancel,← HX.out.1,← HX.out.2])))
     go_wp2_with fail
     go_region
     go_wp2
     clear c0 c1 f0 f1
     go_loopg [3,5] n (fun gk s3 s5 W=>∃ (kk k2:Nat) (dk:Array Int),s3=.int .i64 kk∧s5=.int .i64 k2∧1≤k2∧m+1+k2≤n∧n - (m+1+k2)≤gk∧Hid (SAt B ix g c n rs w W dk)∧Hid (CompInv d (m+1+k2) kk dk))
     case atStart=>exact ⟨m+1,1,d,by go_num,rfl,Nat.le_refl _,by omega,by omega,by first | exact hide_ HS.out.drew | exact hide_ (HS.out.drewN _),START⟩
     case round =>
      clear HS
      obtain ⟨kk,k2,dk,rfl,rfl,h1,hle,hg2,HS,HI⟩:=hrel
      have hkk:=HI.out.lt
      by_cases hlt2:m+1+k2<n
      ·obtain ⟨t,rfl⟩:∃ t,k2=t+1:=⟨k2 - 1,by omega⟩
       obtain ⟨u,hu⟩:∃ x,x=d[m+1+(t+1)]! := ⟨_,rfl⟩
       obtain ⟨v,hv⟩:∃ x,x=d[m+1+t]! := ⟨_,rfl⟩
       have c0:=HS.out.cell HR.out (t:=m+1+(t+1)) (by omega)
       have c1:=HS.out.cell HR.out (t:=m+1+t) (by omega)
       have ck:=HS.out.cell HR.out (t:=kk) (by omega)
       have fk:=HS.out.frz HR.out kk
       rw [HI.out.high (m+1+(t+1)) (by omega),← hu] at c0
       rw [HI.out.high (m+1+t) (by omega),← hv] at c1
       have HX:=hide_ (And.intro hu hv)
       clear hu hv
       obtain ⟨old,hold⟩:∃ x,x=dk[kk]! := ⟨_,rfl⟩
       rw [← hold] at ck
       clear hold
       have g3:decide (t+1<n - (m+1))=true:=decide_eq_true (by omega)
       have g4:(t:Int)+1<(n:Int) - ((m:Int)+1):=by omega
       by_cases huv:u=v
       ·subst huv
        have gd2:(u != u)=false:=by simp
        go_wp2_with fail
        go_region
        go_wp2
        go_roundg (n - (m+1+(t+1+1)))
        case measure=>omega
        case rel=>exact ⟨kk,t+1+1,dk,rfl,by go_num,by omega,by omega,Nat.le_refl _,by first | exact hide_ HS.out.drew | exact hide_ (HS.out.drewN _),hide_ (HI.out.skip (keeps_neg (by omega) (by rw [show m+1+(t+1) - 1=m+1+t by omega,← HX.out.1,← HX.out.2])))⟩
       ·have gd2:(u != v)=true:=by simpa using huv
        have NEW:=hide_ (fun W (hW:SAt B ix g c n rs w W dk)=>hW.one HR.out (t:=kk) (by omega) u)
        have KEEP:=hide_ (show CompInv d (m+1+(t+1+1)) (kk+1) (dk.setIfInBounds kk u) by
         have:=HI.out.keep (by rw [HD.out];exact hlt2) (keeps_pos (by rw [show m+1+(t+1) - 1=m+1+t by omega,← HX.out.1,← HX.out.2];exact huv))
         rwa [← HX.out.1] at this)
        go_wp2_with fail
        go_region
        go_wp2
        go_roundg (n - (m+1+(t+1+1)))
        case measure=>omega
        case rel=>exact ⟨kk+1,t+1+1,dk.setIfInBounds kk u,by go_num,by go_num,by omega,by omega,Nat.le_refl _,by first | exact hide_ (NEW.out _ HS.out).drew | exact hide_ (NEW.out _ HS.out.drew) | exact hide_ (NEW.out _ (HS.out.drewN _)),KEEP⟩
      ·have hend:m+1+k2=n:=by omega
       have hI:=HI.out
       rw [hend] at hI
       have HI2:=hide_ hI
       have hcl:∀ ty,(Builtin.clear_ #[23] ty #[.slice (some ⟨g,kk,none⟩) (n - kk) (c - kk)]).run Tryz.prog wr=.ok (.tuple #[]) (wr.setCells g kk (List.replicate (n - kk) (.int .u32 0))):=fun ty =>
        Lib.run_clear_slice wr _ _ ty _ Tryz.underlying23 zero_u32 rfl rfl g kk _ _ (by omega) (fun j hj=>by rw [HS.out.cell HR.out (t:=kk+j) (by omega)];rfl) (fun j hj=>HS.out.frz HR.out (kk+j))
       have DONE:=hide_ (show SAt B ix g c n rs w (wr.setCells g kk (List.replicate (n - kk) (.int .u32 0))) (compactUpTo d n ++ List.replicate (n - kk) 0).toArray by
        have h9:=SAt.cells_ HR.out (List.replicate (n - kk) 0) dk kk wr HS.out (by simp;omega)
        rw [List.map_replicate] at h9
        refine h9.again_ ?_
        have:=hI
        rw [← HD.out] at this ⊢
        exact this.done 0)
       have LEN:=hide_ (show (compactUpTo d n).length=kk from HI2.out.len)
       have g3:decide (k2<n - (m+1))=false:=decide_eq_false (by omega)
       have g4:¬ (k2:Int)<(n:Int) - ((m:Int)+1):=by omega
       clear hend hI HI HI2 HS
       have g5:kk≤c:=by omega
       have g6:¬ c=kk:=by omega
       go_wp2
       go_ret
       rw [LEN.out]
       exact ⟨rfl,DONE.out⟩
    ·have gd:(x == y)=false:=by simpa using hdup
     go_wp2_with fail
     go_region
     go_wp2
     go_roundw
     case rel =>
      refine ⟨m+1+1,by go_num,by omega,by omega,by first | exact hide_ HS.out.drew | exact hide_ (HS.out.drewN _),hide_ fun j hj=>?_⟩
      by_cases e:j=m+1
      ·subst e
       exact keeps_pos (by rw [Nat.add_sub_cancel,← HX.out.1,← HX.out.2];exact hdup)
      ·exact HA.out j (by omega)
     case measure=>simp [intOf] <;> omega
   ·obtain rfl:k=n:=by omega
    have g0:decide (k<k)=false:=decide_eq_false (by omega)
    go_wp2
    go_ret
    obtain ⟨e1,e2⟩:=SAME.out HA.out
    exact ⟨by rw [e1];rfl,HS.out.again_ e2⟩
theorem ownsRow_front {w:World} {B:Nat} {e:TypeId} {size n m g c:Nat} {xs:List Value} (h:w.ownsRow B e size (.slice (some ⟨g,0,none⟩) n c) n xs) (hm:m≤n):w.ownsRow B e size (.slice (some ⟨g,0,none⟩) m c) m (xs.take (m * size)):=by
 have hle:m * size≤n * size:=Nat.mul_le_mul_right _ hm
 refine ⟨by rw [List.length_take,h.1];omega,?_⟩
 rcases h.2 with ⟨h1,_⟩ | ⟨g',cap,cur,hv,hB,hg,hn,hmx,hs,ht⟩
 ·cases h1
 ·injection hv with h1 _ h3
  injection h1 with h1
  injection h1 with h1
  subst h1 h3
  refine .inr ⟨g,c,cur,rfl,hB,hg,by omega,hmx,hs,?_⟩
  rw [← ht,List.take_take,Nat.min_eq_left hle]
theorem cpt_row {B ix:Nat} {rs:List Ro} {w:World} {v:Value} {l:List Int} (hr:rs[ix]?=some ⟨25,1,v,l.length,l.map (Value.int .u32)⟩) (hO:Owns w B rs) (hB:B≤w.heap.size) (hn:l.length<4611686018427387904) :
  Calls Tryz.prog 72 #[v] w fun e w'=>∃ v',e=.returned v'∧Owns w' B (rs.set ix ⟨25,1,v',(Go.Lib.compact l).length,(Go.Lib.compact l).map (Value.int .u32)⟩)∧Below B w w':=by
 have hat:=hO.at_ hr
 rcases Nat.eq_zero_or_pos l.length with h0 | h0
 ·obtain ⟨A,c,hv,_,_⟩:=ownsRow_slice hat
  obtain rfl:l=[]:=List.eq_nil_of_length_eq_zero h0
  dsimp only at hv
  have hcal:Calls Tryz.prog 72 #[.slice A 0 c] w fun e w'=>e=.returned (.slice A 0 c)∧w'=w:=by
   go_enter Tryz.func72,Tryz.ntmps72
   go_wp2
   go_ret
   exact ⟨rfl,rfl⟩
  have e1:Go.Lib.compact ([]:List Int)=[]:=rfl
  have e:rs.set ix ⟨25,1,v,([]:List Int).length,([]:List Int).map (Value.int .u32)⟩=rs:=by
   apply List.ext_getElem?
   intro j
   rw [List.getElem?_set]
   split
   ·rename_i e
    subst e
    rw [if_pos (List.getElem?_eq_some_iff.1 hr).1,hr]
   ·rfl
  rw [hv]
  refine hcal.mono ?_
  rintro e w' ⟨rfl,rfl⟩
  refine ⟨_,rfl,?_,Below.refl _ _⟩
  rw [e1]
  have h9:=hO
  rw [← e,hv] at h9
  exact h9
 ·obtain ⟨g,c,hv⟩:=ownsRow_some hat h0
  dsimp only at hv
  subst hv
  obtain ⟨_,c',hc1,hc2,_⟩:=ownsRow_slice hat
  have hcc:c'=c:=by injection hc1 with _ _ h;exact h.symm
  subst hcc
  have hs:SAt B ix g c' l.length rs w w l.toArray:=SAt.start (by rw [hr];simp [srow]) (by simp) hO
  refine (srt_compact B ix g c' l.length rs w w l.toArray _ hs hr hn hc2).mono ?_
  rintro e w' ⟨rfl,h⟩
  refine ⟨_,rfl,?_,h.bl⟩
  have hlen:(compactUpTo l.toArray l.length).length≤l.length:=by
   have h1:=h.sz
   simp at h1
   omega
  have h1:=h.ow
  have hi:=srow_at hr (srow g c' l.length (compactUpTo l.toArray l.length ++ List.replicate (l.length - (compactUpTo l.toArray l.length).length) 0).toArray)
  have h2:=ownsRow_front (h1.at_ hi) hlen
  have h3:=h1.turn hi (World.grownBy.refl w' _) (r':=⟨25,1,.slice (some ⟨g,0,none⟩) (compactUpTo l.toArray l.length).length c',(compactUpTo l.toArray l.length).length,(compactUpTo l.toArray l.length).map (Value.int .u32)⟩) (by
   have e9:((compactUpTo l.toArray l.length ++ List.replicate (l.length - (compactUpTo l.toArray l.length).length) 0).toArray.toList.map (Value.int .u32)).take ((compactUpTo l.toArray l.length).length * 1)=(compactUpTo l.toArray l.length).map (Value.int .u32):=by
    rw [Nat.mul_one,List.toList_toArray,List.map_append]
    exact List.take_left' (by simp)
   unfold srow at h2
   dsimp only at h2
   rw [e9] at h2
   exact h2) (.inl rfl)
  rw [List.set_set] at h3
  exact h3
end Go.Proofs.YtikbegmodacopaaGreatDoor
namespace Go.Proofs.YtikbegmodacopaaGreatDoor
set_option maxRecDepth 100000
open Go.RowKit Go.PlainAid
open Go.Lib (keeps compactUpTo compactUpTo_succ keeps_pos keeps_neg)
set_option linter.unusedSimpArgs false
set_option linter.unusedVariables false
theorem cpt_mem (d:Array Int) (v:Int):∀ m,v ∈ compactUpTo d m ↔ ∃ j,j<m∧d[j]! = v
 | 0=>by simp [compactUpTo]
 | m+1=>by
  rw [compactUpTo_succ,List.mem_append,cpt_mem d v m]
  constructor
  ·rintro (⟨j,hj,e⟩ | h)
   ·exact ⟨j,by omega,e⟩
   ·split at h
    ·exact ⟨m,by omega,(List.mem_singleton.1 h).symm⟩
    ·cases h
  ·rintro ⟨j,hj,e⟩
   by_cases hjm:j<m
   ·exact .inl ⟨j,hjm,e⟩
   ·obtain rfl:j=m:=by omega
    cases hk:keeps d j with
    | true=>right;rw [if_pos rfl,e];simp
    | false =>
     left
     unfold keeps at hk
     have hk:=of_decide_eq_false hk
     have h0:j≠0:=fun h=>hk (.inl h)
     have h1:d[j]! = d[j - 1]! := Classical.byContradiction fun h=>hk (.inr h)
     exact ⟨j - 1,by omega,by rw [← h1];exact e⟩
theorem cpt_rise (d:Array Int) (hs:∀ i j,i≤j→j<d.size→d[i]! ≤ d[j]!):∀ m,m≤d.size→(compactUpTo d m).Pairwise (· < ·)
 | 0,_=>by simp [compactUpTo]
 | m+1,hm=>by
  rw [compactUpTo_succ,List.pairwise_append]
  refine ⟨cpt_rise d hs m (by omega),by split <;> simp,fun a ha b hb=>?_⟩
  split at hb
  ·rename_i hk
   obtain rfl:=List.mem_singleton.1 hb
   obtain ⟨j,hj,rfl⟩:=(cpt_mem d a m).1 ha
   unfold keeps at hk
   have hk:=of_decide_eq_true hk
   have h1:d[m]! ≠ d[m - 1]! := by
    rcases hk with h | h
    ·omega
    ·exact h
   have h2:=hs j (m - 1) (by omega) (by omega)
   have h3:=hs (m - 1) m (by omega) (by omega)
   omega
  ·cases hb
theorem rise_ext:∀ {a b:List Int},a.Pairwise (· < ·)→b.Pairwise (· < ·)→(∀ v,v ∈ a ↔ v ∈ b)→a=b
 | [],[],_,_,_=>rfl
 | [],y :: b,_,_,h=>absurd ((h y).2 (by simp)) (by simp)
 | x :: a,[],_,_,h=>absurd ((h x).1 (by simp)) (by simp)
 | x :: a,y :: b,ha,hb,h=>by
  have hx:=List.pairwise_cons.1 ha
  have hy:=List.pairwise_cons.1 hb
  have e:x=y:=by
   have h1:=(h x).1 (by simp)
   have h2:=(h y).2 (by simp)
   rcases List.mem_cons.1 h1 with h1 | h1
   ·exact h1
   ·rcases List.mem_cons.1 h2 with h2 | h2
    ·exact h2.symm
    ·have:=hy.1 x h1
     have:=hx.1 y h2
     omega
  subst e
  congr 1
  refine rise_ext hx.2 hy.2 fun v=>⟨fun hv=>?_,fun hv=>?_⟩
  ·rcases List.mem_cons.1 ((h v).1 (by simp [hv])) with e | e
   ·have:=hx.1 v hv;omega
   ·exact e
  ·rcases List.mem_cons.1 ((h v).2 (by simp [hv])) with e | e
   ·have:=hy.1 v hv;omega
   ·exact e
theorem sorted_get {l:List Int} (h:l.Pairwise (· ≤ ·)):∀ i j,i≤j→j<l.toArray.size→l.toArray[i]! ≤ l.toArray[j]! := by
 intro i j hij hj
 have hj':j<l.length:=by simpa using hj
 rw [getElem!_pos l.toArray i (by simp;omega),getElem!_pos l.toArray j hj]
 simp only [List.getElem_toArray]
 rcases Nat.eq_or_lt_of_le hij with rfl | hlt
 ·exact Int.le_refl _
 ·exact List.pairwise_iff_getElem.1 h i j (by omega) hj' hlt
def sortC (l:List Int):List Int:=Go.Lib.compact (l.mergeSort fun a b=>decide (a≤b))
theorem ms_sorted (l:List Int):(l.mergeSort fun a b=>decide (a≤b)).Pairwise (· ≤ ·):=by
 have:=List.pairwise_mergeSort (le:=fun a b:Int=>decide (a≤b)) (fun a b c h1 h2=>by simp at *;omega) (fun a b=>by simp;omega) l
 exact this.imp fun h=>by simpa using h
theorem sortC_mem (l:List Int) (v:Int):v ∈ sortC l ↔ v ∈ l:=by
 unfold sortC Go.Lib.compact
 rw [cpt_mem,← (List.mergeSort_perm l fun a b=>decide (a≤b)).mem_iff]
 generalize l.mergeSort _=q
 constructor
 ·rintro ⟨j,hj,e⟩
  rw [getElem!_pos q.toArray j (by simpa using hj)] at e
  rw [← e]
  simp
 ·intro h
  obtain ⟨j,hj⟩:=List.mem_iff_getElem?.1 h
  obtain ⟨hj1,hj2⟩:=List.getElem?_eq_some_iff.1 hj
  exact ⟨j,hj1,by rw [getElem!_pos q.toArray j (by simpa using hj1)];simpa using hj2⟩
theorem sortC_rise (l:List Int):(sortC l).Pairwise (· < ·):=by
 unfold sortC Go.Lib.compact
 exact cpt_rise _ (sorted_get (ms_sorted l)) _ (by simp)
def stB (n:Nat) (t:Int × Int):Bool:=decide ((opR t.1).kind=3∨(opR t.1).kind=2) && decide (t.2≤n)
def allP (x:ImgV):List Int:=x.jumps ++ x.names.map (·.at_) ++ (x.code.filter (stB x.code.length)).map (·.2)
def jmpOk (x:ImgV) (i:Nat):Bool:=match x.jumps[i]? with
 | none=>true
 | some j=>decide (j≤x.code.length) && (decide (i=0) || match x.jumps[i - 1]? with
  | none=>true
  | some p=>decide (p<j))
def jmpsB (x:ImgV):Bool:=(List.range x.jumps.length).all (jmpOk x)
def natB (x:ImgV):Bool:=x.names.all fun t=>decide (t.at_≤x.code.length)
def begB (x:ImgV):Bool:=jmpsB x && natB x
def plc (x:ImgV):List Int:=sortC (allP x)
theorem jmpOk_0 {x:ImgV} {j:Int} (h:x.jumps[0]?=some j):jmpOk x 0=decide (j≤x.code.length):=by unfold jmpOk;rw [h];simp
theorem jmpOk_s {x:ImgV} {k:Nat} {j p:Int} (h:x.jumps[k+1]?=some j) (hp:x.jumps[k]?=some p):jmpOk x (k+1)=(decide (j≤x.code.length) && decide (p<j)):=by unfold jmpOk;rw [h];simp [hp]
theorem jmpsB_all {x:ImgV} (h:∀ j,j<x.jumps.length→jmpOk x j=true):jmpsB x=true:=List.all_eq_true.2 fun j hj=>h j (List.mem_range.1 hj)
theorem jmpsB_no {x:ImgV} {k:Nat} (hk:k<x.jumps.length) (h:jmpOk x k=false):jmpsB x=false:=by
 rw [Bool.eq_false_iff]
 intro h2
 have:=List.all_eq_true.1 h2 k (List.mem_range.2 hk)
 rw [h] at this
 cases this
theorem natB_no {x:ImgV} {k:Nat} {t:ExpV} (hk:x.names[k]?=some t) (h:¬ t.at_≤x.code.length):natB x=false:=by
 rw [Bool.eq_false_iff]
 intro h2
 have:=List.all_eq_true.1 h2 t (List.mem_of_getElem? hk)
 simp at this
 omega
theorem allP_le {x:ImgV} (hx:ImgOk x) (hb:begB x=true):∀ v ∈ allP x,0≤v∧v≤x.code.length:=by
 unfold begB at hb
 rw [Bool.and_eq_true] at hb
 intro v hv
 unfold allP at hv
 rcases List.mem_append.1 hv with hv | hv
 ·rcases List.mem_append.1 hv with hv | hv
  ·obtain ⟨k,hk⟩:=List.mem_iff_getElem?.1 hv
   have h1:=List.all_eq_true.1 hb.1 k (List.mem_range.2 (List.getElem?_eq_some_iff.1 hk).1)
   unfold jmpOk at h1
   rw [hk] at h1
   simp at h1
   exact ⟨(hx.jumps v hv).1,h1.1⟩
  ·obtain ⟨t,ht,rfl⟩:=List.mem_map.1 hv
   have h1:=List.all_eq_true.1 hb.2 t ht
   simp at h1
   exact ⟨(hx.names t ht).2.1,h1⟩
 ·obtain ⟨t,ht,rfl⟩:=List.mem_map.1 hv
  have h1:=(List.mem_filter.1 ht)
  have h2:=h1.2
  unfold stB at h2
  simp at h2
  exact ⟨(hx.code t h1.1).2.1,h2.2⟩
def plcR (x:ImgV):List Int:=((List.range (x.code.length+1)).filter fun i=>decide (((i:Nat):Int) ∈ allP x)).map fun i=>((i:Nat):Int)
theorem plc_eq {x:ImgV} (hx:ImgOk x) (hb:begB x=true):plc x=plcR x:=by
 refine rise_ext (sortC_rise _) ?_ fun v=>?_
 ·unfold plcR
  rw [List.pairwise_map]
  refine (List.pairwise_lt_range.sublist List.filter_sublist).imp fun h=>by omega
 ·unfold plc
  rw [sortC_mem]
  unfold plcR
  constructor
  ·intro h
   obtain ⟨h0,h1⟩:=allP_le hx hb v h
   refine List.mem_map.2 ⟨v.toNat,List.mem_filter.2 ⟨List.mem_range.2 (by omega),?_⟩,by omega⟩
   rw [decide_eq_true_eq,show ((v.toNat:Nat):Int)=v by omega]
   exact h
  ·intro h
   obtain ⟨i,hi,rfl⟩:=List.mem_map.1 h
   exact of_decide_eq_true (List.mem_filter.1 hi).2
end Go.Proofs.YtikbegmodacopaaGreatDoor

namespace Go.Proofs.YtikbegmodacopaaGreatDoor
set_option maxRecDepth 100000
open Go.RowKit
set_option linter.unusedSimpArgs false
set_option linter.unusedVariables false
def dcm (v:Nat):List Int:=(Lib.decDigits v).map fun b=>(b.toNat:Int)
theorem dcm_low {v:Nat} (h:v<10):dcm v=[48+(v:Int)]:=by
 unfold dcm
 rw [Lib.decDigits,dif_pos h]
 simp
 omega
theorem dcm_high {v:Nat} (h:¬ v<10):dcm v=dcm (v / 10) ++ [48+((v % 10:Nat):Int)]:=by
 unfold dcm
 rw [Lib.decDigits,dif_neg h,List.map_append]
 simp
 omega
def d0 (v:Nat):List Int:=if v=0 then [] else dcm v
theorem d0_pos {v:Nat} (h:v≠0):d0 v=d0 (v / 10) ++ [48+((v % 10:Nat):Int)]:=by
 unfold d0
 rw [if_neg h]
 by_cases h1:v<10
 ·rw [dcm_low h1,if_pos (by omega),Nat.mod_eq_of_lt h1]
  rfl
 ·rw [dcm_high h1,if_neg (by omega)]
end Go.Proofs.YtikbegmodacopaaGreatDoor
namespace Go.Proofs.YtikbegmodacopaaGreatDoor
set_option maxRecDepth 100000
open Go.RowKit Go.PlainAid Go.BigFrame
set_option linter.unusedSimpArgs false
set_option linter.unusedVariables false
theorem d0_len (v:Nat):(d0 v).length≤v:=by
 induction v using Nat.strongRecOn with
 | _ v ih =>
  by_cases h:v=0
  ·subst h;simp [d0]
  ·rw [d0_pos h,List.length_append]
   have:=ih (v / 10) (by omega)
   simp
   omega
theorem info_u32q:(Tryz.prog.info? 25).map (fun i=>(i.zero,i.size,i.bytes))=some (some (.int .u32 0),1,4):=by kernel_rfl
end Go.Proofs.YtikbegmodacopaaGreatDoor
namespace Go.Proofs.YtikbegmodacopaaGreatDoor
set_option maxRecDepth 100000
open Go.RowKit Go.PlainAid Go.BigFrame Go.Shelf Go.Lib
set_option linter.unusedSimpArgs false
set_option linter.unusedVariables false
def TabOk (w:World):Prop:=Lib.TabIs Tryz.prog w "internal/strconv.uint64pow10" .u64 Lib.pow10Tab
theorem TabOk.below {w w':World} (h:TabOk w) (hb:Below w.heap.size w w'):TabOk w':=by
 unfold TabOk Lib.TabIs World.var? at h ⊢
 cases hg:Tryz.prog.globalNamed "internal/strconv.uint64pow10" with
 | none=>rw [hg] at h;exact absurd h (by simp)
 | some g =>
  rw [hg] at h
  simp only [Option.bind_some] at h ⊢
  have hlt:g<w.heap.size:=by
   rcases Nat.lt_or_ge g w.heap.size with h1 | h1
   ·exact h1
   ·rw [Array.getElem?_eq_none h1] at h
    exact absurd h (by simp)
  rw [hb.block g hlt]
  exact h
def sv (x:Int):Int:=if 2147483648≤x then x - 4294967296 else x
def sgnT (x:Int):ByteArray:=⟨(Lib.itoa (sv x)).toArray⟩
theorem sgnT_neg {x:Int} (h:2147483648≤x) (h1:x<4294967296):sgnT x=⟨#[45]⟩ ++ ⟨(Lib.decDigits (4294967296 - x).toNat).toArray⟩:=by
 unfold sgnT sv
 rw [if_pos h,show x - 4294967296 = -(((4294967296 - x).toNat:Nat):Int) by omega,Lib.itoa_neg _ (by omega)]
 apply ByteArray.ext
 simp
theorem sgnT_pos {x:Int} (h0:0≤x) (h:¬ 2147483648≤x):sgnT x=⟨(Lib.decDigits x.toNat).toArray⟩:=by
 unfold sgnT sv
 rw [if_neg h,show Lib.itoa x=Lib.itoa ((x.toNat:Nat):Int) by rw [Int.toNat_of_nonneg h0],Lib.itoa_nonneg]
theorem i32_sv {x:Int} (h0:0≤x) (h1:x<4294967296):IntKind.i32.wrap x=sv x:=by
 unfold sv IntKind.wrap
 simp [IntKind.bits,IntKind.signed]
 split <;> omega
set_option maxHeartbeats 1000000 in
theorem Signed_any (x:Int) (h0:0≤x) (h1:x<4294967296) (w:World) (hT:TabOk w):Calls Tryz.prog 67 #[.int .u32 x] w fun e w'=>e=.returned (.string (sgnT x))∧Below w.heap.size w w':=by
 have hw:=i32_sv h0 h1
 have hb : -2147483648≤sv x∧sv x≤2147483647:=by unfold sv;split <;> omega
 obtain ⟨b0,b1⟩:=hb
 unfold sgnT
 obtain ⟨y,hy⟩:∃ y,y=sv x:=⟨_,rfl⟩
 rw [← hy] at hw b0 b1 ⊢
 have HT:=hide_ hT
 clear hT hy
 go_enter Tryz.func67,Tryz.ntmps67
 go_wp2_with fail
 refine (Tryz.strconv_Itoa y (by omega) (by omega) _ HT.out).mono ?_
 rintro e w1 ⟨rfl,k,os,rfl⟩
 have HB:=hide_ (below_grow w.heap.size w (Nat.le_refl _) k os)
 go_wp2
 go_ret
 exact ⟨rfl,HB.out⟩
end Go.Proofs.YtikbegmodacopaaGreatDoor
namespace Go.Proofs.YtikbegmodacopaaGreatDoor
open Go.RowKit Go.PlainAid Go.Shelf Go.Sort
set_option linter.unusedSimpArgs false
set_option linter.unusedVariables false
set_option maxRecDepth 100000
def decT (n:Nat):ByteArray:=⟨(Lib.decDigits n).toArray⟩
set_option maxHeartbeats 2000000 in
theorem inUint_any (u:Nat) (hu64:u<18446744073709551616) (w:World) (hT:TabOk w) :
  Calls Tryz.prog 106 #[.int .u64 u,.int .i64 10] w fun e w'=>e=.returned (.string (decT u))∧Below w.heap.size w w':=by
 unfold decT
 by_cases hs:u<100
 ·have hsi:(u:Int)<100:=by omega
  go_enter Tryz.func106,Tryz.ntmps106
  go_wp2_with fail
  refine (Tryz.internal_strconv_small u hs _).mono ?_
  rintro e w' ⟨rfl,rfl⟩
  go_wp2
  go_ret
  exact ⟨rfl,Below.refl _ _⟩
 ·have hu1:1≤u:=by omega
  have hsi:¬ (u:Int)<100:=by omega
  have hnd20:Lib.nDigits u≤20:=by have:=Lib.numDigits_eq u hu1 hu64;split at this <;> omega
  have hal:Tryz.prog.arrayLen 182=24:=by kernel_rfl
  have hsl1:∀ W,(Instr.sliceAt 182 (.pointer (some ⟨w.heap.size,0,none⟩)) none (some (.int .i64 (Lib.nDigits u:Int))) none).run Tryz.prog W=.ok (.slice (some ⟨w.heap.size,0,none⟩) (Lib.nDigits u) 24) W:=fun W=>by
   rw [run_sliceAt_array_h W 182 ⟨w.heap.size,0,none⟩ (by kernel_rfl) .i64 (Lib.nDigits u:Int) (by omega) (by rw [hal];omega)]
   go_simp
  have hH0:=Lib.holds_zero0 w 182 (Lib.nDigits u) (by omega)
  have hfmt:=Tryz.internal_strconv_formatBase10 w.heap.size 0 24 u (Array.replicate (Lib.nDigits u) 0) (w.alloc (.cells Lib.zeros24 182)) hH0 (by rw [Array.size_replicate];exact Lib.lt_pow_nDigits u) hu64 (by rw [Array.size_replicate];omega)
  rw [Array.size_replicate] at hfmt
  have HH0:=hide_ hH0
  have HT:=hide_ hT
  have HF:=hide_ hfmt
  clear hH0 hal hT hfmt
  go_enter Tryz.func106,Tryz.ntmps106
  go_wp2_with fail
  refine (Tryz.internal_strconv_numDigits u hu1 hu64 _ (Lib.tabIs_alloc HT.out _)).mono ?_
  rintro e w' ⟨rfl,rfl⟩
  go_wp2_with fail
  refine HF.out.mono ?_
  rintro e w' ⟨rfl,k,v',dk,rfl,hF⟩
  have hcv:(convert 24 9 (.slice (some ⟨w.heap.size,0,none⟩) (Lib.nDigits u) 24)).run Tryz.prog ((putRow (fun (b:UInt8)=>Value.int .u8 (b.toNat:Int)) (w.alloc (.cells Lib.zeros24 182)) w.heap.size 0 dk).drewN k)=.ok (.string ⟨(Lib.decDigits u).toArray⟩) ((putRow (fun (b:UInt8)=>Value.int .u8 (b.toNat:Int)) (w.alloc (.cells Lib.zeros24 182)) w.heap.size 0 dk).drewN k):=by
   have h:=run_convert_bytes_back (P:=Tryz.prog) ((putRow (fun (b:UInt8)=>Value.int .u8 (b.toNat:Int)) (w.alloc (.cells Lib.zeros24 182)) w.heap.size 0 dk).drewN k) 24 9 5 ⟨w.heap.size,0,none⟩ 24 (Lib.decDigits u) Tryz.underlying24 Tryz.underlying5 Tryz.underlying9 (fun j hj=>by
    rw [Lib.row_is_numeral hF j hj,Lib.add_plain,World.cell?_drewN]
    exact cell?_putRow (fun (b:UInt8)=>Value.int .u8 (b.toNat:Int)) _ w.heap.size 0 _ dk HH0.out (by rw [hF.size,Array.size_replicate]) j (by rw [hF.size];rw [Lib.decDigits_length] at hj;exact hj))
   rw [Lib.decDigits_length] at h
   exact h
  have HFIN:=hide_ (Lib.fin_at w (.cells Lib.zeros24 182) dk k 0)
  clear hF
  go_wp2
  go_ret
  obtain ⟨os,eo⟩:=HFIN.out
  exact ⟨rfl,by rw [eo];exact Lib.below_grow w.heap.size w (Nat.le_refl _) k os⟩
theorem Uint_any (u:Nat) (hu64:u<18446744073709551616) (w:World) (hT:TabOk w) :
  Calls Tryz.prog 75 #[.int .u64 u,.int .i64 10] w fun e w'=>e=.returned (.string (decT u))∧Below w.heap.size w w':=by
 have HU:=hide_ (inUint_any u hu64 w hT)
 clear hT
 go_enter Tryz.func75,Tryz.ntmps75
 go_wp2_with fail
 refine HU.out.mono ?_
 rintro e w1 ⟨rfl,hb⟩
 have HB:=hide_ hb
 clear hb
 go_wp2
 go_ret
 exact ⟨rfl,HB.out⟩
theorem decT_small {n:Nat} (h:n<10):decT n=⟨#[UInt8.ofNat (48+n)]⟩:=by
 unfold decT
 rw [Lib.decDigits_one h]
theorem decT_big {n:Nat} (h:¬ n<10):decT n=decT (n / 10) ++ ⟨#[UInt8.ofNat (48+n % 10)]⟩:=by
 unfold decT
 rw [Lib.decDigits,dif_neg h]
 apply ByteArray.ext
 simp
theorem decT_size (n:Nat) (h:n<18446744073709551616):(decT n).size≤20:=by
 unfold decT
 rw [show (⟨(Lib.decDigits n).toArray⟩:ByteArray).size=(Lib.decDigits n).length from by simp [ByteArray.size],Lib.decDigits_length]
 by_cases h0:n=0
 ·subst h0;rw [Lib.nDigits_small (by omega)];omega
 ·have:=Lib.numDigits_eq n (by omega) h;split at this <;> omega
def digB (n:Nat):ByteArray:=⟨#[UInt8.ofNat (48+n)]⟩
theorem digB_text (n:Nat):textOf [48+n]=digB n:=by
 rfl
end Go.Proofs.YtikbegmodacopaaGreatDoor
namespace Go.Proofs.YtikbegmodacopaaGreatDoor
open Go.RowKit Go.PlainAid Go.BigFrame
set_option linter.unusedSimpArgs false
set_option linter.unusedVariables false
set_option maxRecDepth 100000
def natS (p:Int):ByteArray:=⟨#[97,116]⟩ ++ decT p.toNat
set_option maxHeartbeats 1000000 in
theorem static_any (op arg:Int) (n:Nat) (w:World) (a0:0≤arg) (a1:arg<4294967296) (hn:n≤140737488351232) :
  Calls Tryz.prog 41 #[.agg #[.int .u8 op,.int .u32 arg],.int .i64 n] w fun e w'=>e=.returned (.bool (stB n (op,arg)))∧Below w.heap.size w w':=by
 obtain ⟨r,hr⟩:∃ r,r=opR op:=⟨_,rfl⟩
 obtain ⟨b,hb⟩:∃ b,b=opOk op:=⟨_,rfl⟩
 have HI:=hide_ (fun w=>Info_any op w)
 unfold opV at HI
 unfold stB
 dsimp only
 rw [← hr,← hb] at HI
 rw [← hr]
 clear hr hb
 unfold opCells at HI
 have hways:((r.kind:Int) == 3)=true∨(((r.kind:Int) == 3)=false∧((r.kind:Int) == 2)=true)∨(((r.kind:Int) == 3)=false∧((r.kind:Int) == 2)=false):=by
  cases (r.kind:Int) == 3 <;> cases (r.kind:Int) == 2 <;> simp
 have hres:(decide (r.kind=3∨r.kind=2) && decide (arg≤n))=((((r.kind:Int) == 3) || ((r.kind:Int) == 2)) && decide (arg≤(n:Int))):=by
  congr 1
  rw [Bool.eq_iff_iff]
  simp
  omega
 rw [hres]
 clear hres
 rcases hways with h1 | ⟨h1,h2⟩ | ⟨h1,h2⟩
 ·rw [h1,Bool.true_or,Bool.true_and]
  have h3:(r.kind:Int)=3:=by simpa using h1
  clear h1
  obtain ⟨kd,hkd⟩:∃ k:Int,k=(r.kind:Int):=⟨_,rfl⟩
  rw [← hkd] at HI h3
  subst h3
  clear hkd
  go_enter Tryz.func41,Tryz.ntmps41
  go_wp2_with fail
  refine (HI.out _).mono ?_
  rintro e w1 ⟨rfl,hb⟩
  have hc:=(hb.cell (p:=⟨w.heap.size,1,none⟩) (by simp)).trans (show (w.alloc (.cells #[.int .u8 op,.int .u32 arg] 66)).cell? ⟨w.heap.size,1,none⟩=some (.int .u32 arg) from by simp)
  have hz:w.heap.size<w1.heap.size:=by have:=hb.size;simp at this;omega
  have HB:=hide_ (show Below w.heap.size w w1 from ((Below.refl _ _).alloc (Nat.le_refl _) _).trans (hb.mono (by simp)))
  clear hb
  go_wp2
  go_ret
  exact ⟨rfl,(HB.out).alloc HB.out.size _⟩
 ·rw [h1,h2,Bool.false_or,Bool.true_and]
  have h3:(r.kind:Int)=2:=by simpa using h2
  clear h1 h2
  obtain ⟨kd,hkd⟩:∃ k:Int,k=(r.kind:Int):=⟨_,rfl⟩
  rw [← hkd] at HI h3
  subst h3
  clear hkd
  go_enter Tryz.func41,Tryz.ntmps41
  go_wp2_with fail
  refine (HI.out _).mono ?_
  rintro e w1 ⟨rfl,hb⟩
  have hc:=(hb.cell (p:=⟨w.heap.size,1,none⟩) (by simp)).trans (show (w.alloc (.cells #[.int .u8 op,.int .u32 arg] 66)).cell? ⟨w.heap.size,1,none⟩=some (.int .u32 arg) from by simp)
  have hz:w.heap.size<w1.heap.size:=by have:=hb.size;simp at this;omega
  have HB:=hide_ (show Below w.heap.size w w1 from ((Below.refl _ _).alloc (Nat.le_refl _) _).trans (hb.mono (by simp)))
  clear hb
  go_wp2
  go_ret
  exact ⟨rfl,(HB.out).alloc HB.out.size _⟩
 ·rw [h1,h2,Bool.false_or,Bool.false_and]
  go_enter Tryz.func41,Tryz.ntmps41
  go_wp2_with fail
  refine (HI.out _).mono ?_
  rintro e w1 ⟨rfl,hb⟩
  have hz:w.heap.size<w1.heap.size:=by have:=hb.size;simp at this;omega
  have HB:=hide_ (show Below w.heap.size w w1 from ((Below.refl _ _).alloc (Nat.le_refl _) _).trans (hb.mono (by simp)))
  clear hb
  go_wp2
  go_ret
  exact ⟨rfl,(HB.out).alloc HB.out.size _⟩
set_option maxHeartbeats 1000000 in
theorem lam_any (gl gp n c i:Nat) (ad:Addr) (u p:Int) (w:World) (h0:w.cell? ⟨gl,0,none⟩=some (.slice (some ad) n c)) (h1:w.cell? ⟨gp,0,none⟩=some (.int .u32 p)) (h2:w.cell? (ad.add i)=some (.int .u32 u)) (hi:i<n) (hn:n≤140737488351232) :
  Calls Tryz.prog 74 #[.int .i64 i,.pointer (some ⟨gl,0,none⟩),.pointer (some ⟨gp,0,none⟩)] w fun e w'=>e=.returned (.bool (decide (p≤u)))∧Below w.heap.size w w':=by
 go_enter Tryz.func74,Tryz.ntmps74
 go_wp2_with fail
 go_big_quiet (fail)
 go_wp2
 go_ret
 exact ⟨rfl,srt_below _ (Below.refl _ _)⟩
def SearchIs (n:Nat) (p:Nat→Bool) (w:World) (e:Ending) (w':World):Prop :=
 ∃ i:Nat,e=.returned (.int .i64 i)∧i≤n∧(∀ t,t<i→p t=false)∧(∀ t,i≤t→t<n→p t=true)∧Below w.heap.size w w'
set_option maxHeartbeats 2000000 in
theorem search_any (n:Nat) (cb:Array Value) (v1 v2:Value) (hcb:cb=#[v1,v2]) (p:Nat→Bool) (w:World) (hsz:n≤140737488351232)
  (hf:∀ (W:World) (i:Nat),i<n→Below w.heap.size w W→Calls Tryz.prog 74 #[.int .i64 i,v1,v2] W fun e w'=>e=.returned (.bool (p i))∧Below W.heap.size W w')
  (hmono:∀ a b,a≤b→b<n→p a=true→p b=true) :
  Calls Tryz.prog 73 #[.int .i64 n,.func (.func 74) #[] cb] w (SearchIs n p w):=by
 subst hcb
 have HF:=hide_ hf
 have HM:=hide_ hmono
 clear hf hmono
 go_enter Tryz.func73,Tryz.ntmps73
 go_wp2
 go_loopg [5,6] n (fun kx s5 s6 wr=>∃ (lo hi:Nat),s5=.int .i64 lo∧s6=.int .i64 hi∧lo≤hi∧hi≤n∧hi - lo≤kx∧Hid (Below w.heap.size w wr) ∧
  Hid ((∀ t,t<lo→p t=false)∧(∀ t,hi≤t→t<n→p t=true)))
 case atStart=>exact ⟨0,n,rfl,rfl,Nat.zero_le _,Nat.le_refl _,by omega,hide_ (Below.refl _ _),hide_ ⟨fun t ht=>absurd ht (Nat.not_lt_zero _),fun t h1 h2=>by omega⟩⟩
 case round =>
  obtain ⟨lo,hi,rfl,rfl,hlh,hin,hg,HB,HI⟩:=hrel
  by_cases hlt:lo<hi
  ·obtain ⟨m,hm⟩:∃ m,m=(lo+hi) / 2:=⟨_,rfl⟩
   have m1:lo≤m:=by omega
   have m2:m<hi:=by omega
   have hz:((lo:Int)+(hi:Int)) / 2=(m:Int):=by omega
   have HC:=hide_ (HF.out wr m (by omega) HB.out)
   obtain ⟨q,hq⟩:∃ q,q=p m:=⟨_,rfl⟩
   rw [← hq] at HC
   have HQ:=hide_ hq
   clear hm hq
   cases q with
   | false =>
    go_wp2_with fail
    refine HC.out.mono ?_
    rintro e w2 ⟨rfl,hb⟩
    have HB2:=hide_ (HB.out.trans (hb.mono HB.out.size))
    clear hb
    go_wp2
    go_roundg (hi - (m+1))
    case measure=>omega
    case rel=>exact ⟨m+1,hi,by go_num,rfl,by omega,hin,Nat.le_refl _,HB2,hide_ ⟨fun t ht=>(by
      cases h:p t with
      | false=>rfl
      | true=>have:=HM.out t m (by omega) (by omega) h;rw [← HQ.out] at this;cases this),HI.out.2⟩⟩
   | true =>
    go_wp2_with fail
    refine HC.out.mono ?_
    rintro e w2 ⟨rfl,hb⟩
    have HB2:=hide_ (HB.out.trans (hb.mono HB.out.size))
    clear hb
    go_wp2
    go_roundg (m - lo)
    case measure=>omega
    case rel=>exact ⟨lo,m,rfl,rfl,by omega,by omega,Nat.le_refl _,HB2,hide_ ⟨HI.out.1,fun t ht htn=>HM.out m t ht htn HQ.out.symm⟩⟩
  ·obtain rfl:hi=lo:=by omega
   go_wp2
   go_ret
   exact ⟨hi,rfl,hin,HI.out.1,HI.out.2,HB.out⟩
def catL (xs:List ByteArray):ByteArray:=⟨(xs.flatMap (·.data.toList)).toArray⟩
theorem catL_2 (a b:ByteArray):catL [a,b]=a ++ b:=by apply ByteArray.ext;simp [catL]
theorem join_flat (l:List (List UInt8)):Lib.join l []=l.flatten:=by
 cases l with
 | nil=>rfl
 | cons x r=>rw [Lib.join_cons];simp [Lib.joinTail]
theorem joined_any (bk c:Nat) (xs:List ByteArray) (W:World) (hc:∀ (j:Nat) x,xs[j]?=some x→W.cell? ⟨bk,j,none⟩=some (.string x)) (hlt:bk<W.heap.size) (hN:xs.length≤140737488355328) (hcap:xs.length≤c) (hs:(catL xs).size≤140737488355328) :
  Calls Tryz.prog 66 #[.slice (some ⟨bk,0,none⟩) xs.length c] W fun e w'=>e=.returned (.string (catL xs))∧Below W.heap.size W w':=by
 have e1:Lib.join (xs.map (·.data.toList)) (⟨#[]⟩:ByteArray).data.toList=xs.flatMap (·.data.toList):=by
  show Lib.join _ []=_
  rw [join_flat,List.flatMap_def]
 have hJ:=Tryz.strings_Join bk 0 c xs ⟨#[]⟩ W (fun j x hj=>by rw [Nat.zero_add];exact hc j x hj) hlt hN hcap (by
  have e2:(catL xs).size=(xs.flatMap (·.data.toList)).length:=List.size_toArray
  rw [e1,← e2]
  exact hs)
 rw [e1] at hJ
 have HJ:=hide_ hJ
 clear hJ e1 hc hs
 obtain ⟨n,hn⟩:∃ n,n=xs.length:=⟨_,rfl⟩
 rw [← hn] at HJ ⊢
 clear hn hN hcap
 obtain ⟨r,hr⟩:∃ r:ByteArray,r=⟨(xs.flatMap (·.data.toList)).toArray⟩:=⟨_,rfl⟩
 show Calls _ _ _ _ fun e w'=>e=.returned (.string ⟨(xs.flatMap (·.data.toList)).toArray⟩)∧_
 rw [← hr] at HJ ⊢
 clear hr
 go_enter Tryz.func66,Tryz.ntmps66
 go_wp2_with fail
 refine HJ.out.mono ?_
 rintro e w1 ⟨rfl,hb⟩
 have HB:=hide_ hb
 clear hb
 go_wp2
 go_ret
 exact ⟨rfl,HB.out⟩
theorem rise_get {l:List Int} (h:l.Pairwise (· < ·)) {i j:Nat} {a b:Int} (ha:l[i]?=some a) (hb:l[j]?=some b) (hij:i<j):a<b:=by
 obtain ⟨h1,rfl⟩:=List.getElem?_eq_some_iff.1 ha
 obtain ⟨h2,rfl⟩:=List.getElem?_eq_some_iff.1 hb
 exact List.pairwise_iff_getElem.1 h i j h1 h2 hij
theorem find_at {l:List Int} (h:l.Pairwise (· < ·)) {i k:Nat} {p:Int} (hk:l[k]?=some p) (hlo:∀ t,t<i→decide (p≤l[t]?.getD 0)=false) (hhi:∀ t,i≤t→t<l.length→decide (p≤l[t]?.getD 0)=true):i=k:=by
 have hkl:=(List.getElem?_eq_some_iff.1 hk).1
 rcases Nat.lt_trichotomy i k with hlt | he | hgt
 ·have h1:=of_decide_eq_true (hhi i (Nat.le_refl _) (by omega))
  have hi:l[i]?=some (l[i]'(by omega)):=List.getElem?_eq_getElem _
  rw [hi] at h1
  have:=rise_get h hi hk hlt
  simp only [Option.getD_some] at h1
  omega
 ·exact he
 ·have:=of_decide_eq_false (hlo k hgt)
  rw [hk] at this
  simp only [Option.getD_some] at this
  omega
theorem u32s_get {l:List Int} {k:Nat} {v:Int} (h:l[k]?=some v):(u32s l)[k]?=some (.int .u32 v):=by unfold u32s;rw [List.getElem?_map,h];rfl
theorem natS_size (p:Int) (h:p<4294967296):(natS p).size≤22:=by
 unfold natS
 have:=decT_size p.toNat (by omega)
 rw [ByteArray.size_append]
 show 2+_≤22
 omega
set_option maxHeartbeats 4000000 in
theorem lnamed_any (l:List Int) (A:Option Addr) (c k:Nat) (p:Int) (w:World) (hr:Reads w w.heap.size 1 A l.length (u32s l)) (hl:l.length≤140737488351232) (rise:l.Pairwise (· < ·)) (hk:l[k]?=some p) (p0:0≤p) (p1:p<4294967296) (hT:TabOk w) :
  Calls Tryz.prog 40 #[.slice A l.length c,.int .u32 p] w fun e w'=>e=.returned (.string (natS p))∧Below w.heap.size w w':=by
 have hkl:=(List.getElem?_eq_some_iff.1 hk).1
 obtain ⟨ad,rfl,hbk,hcell⟩:=hr.2 (by omega)
 have HCELL:=hide_ (fun (W:World) (hb:Below w.heap.size w W) (t:Nat) (ht:t<l.length)=>show W.cell? (ad.add t)=some (.int .u32 (l[t]?.getD 0)) by
  rw [List.getElem?_eq_getElem ht]
  exact (hb.cell (by rw [block_of_add];exact hbk)).trans (hcell t _ (u32s_get (List.getElem?_eq_getElem ht))))
 have HFIND:=hide_ (fun (i:Nat) hlo hhi=>find_at rise (i:=i) hk hlo hhi)
 have HMONO:=hide_ (fun (a b:Nat) (hab:a≤b) (hb:b<l.length) (h:decide (p≤l[a]?.getD 0)=true)=>show decide (p≤l[b]?.getD 0)=true by
  rcases Nat.eq_or_lt_of_le hab with rfl | hlt
  ·exact h
  ·have h1:=of_decide_eq_true h
   have h2:=rise_get rise (List.getElem?_eq_getElem (show a<l.length by omega)) (List.getElem?_eq_getElem hb) hlt
   rw [List.getElem?_eq_getElem (show a<l.length by omega)] at h1
   rw [List.getElem?_eq_getElem hb]
   simp only [Option.getD_some] at h1 ⊢
   exact decide_eq_true (by omega))
 have HK:=hide_ hk
 have HTAB:=hide_ (fun W (hb:Below w.heap.size w W)=>hT.below hb)
 obtain ⟨n,hn⟩:∃ n,n=l.length:=⟨_,rfl⟩
 rw [← hn] at hl hkl HCELL HFIND HMONO ⊢
 clear hn hr hcell rise hk hT
 obtain ⟨W1,hW1⟩:∃ W,W=(w.alloc (.cells #[.slice (some ad) n c] 23)).alloc (.cells #[.int .u32 p] 25):=⟨_,rfl⟩
 have hs1:W1.heap.size=w.heap.size+2:=by rw [hW1];simp
 have HS1:=hide_ hs1
 have g0:W1.cell? ⟨w.heap.size,0,none⟩=some (.slice (some ad) n c):=by rw [hW1];go_simp
 have g1:W1.cell? ⟨w.heap.size+1,0,none⟩=some (.int .u32 p):=by rw [hW1];go_simp
 have HB1:=hide_ (show Below w.heap.size w W1 by rw [hW1];exact ((Below.refl _ _).alloc (Nat.le_refl _) _).alloc (by simp) _)
 have HG:=hide_ (And.intro g0 g1)
 have SRCH:=hide_ (search_any n _ (.pointer (some ⟨w.heap.size,0,none⟩)) (.pointer (some ⟨w.heap.size+1,0,none⟩)) rfl (fun i=>decide (p≤l[i]?.getD 0)) W1 hl (fun W i hi hb=>by
  have hb2:=HB1.out.trans (hb.mono (by have:=HB1.out.size;omega))
  exact lam_any w.heap.size (w.heap.size+1) n c i ad _ p W ((hb.cell (p:=⟨w.heap.size,0,none⟩) (by rw [HS1.out];show w.heap.size<_;omega)).trans HG.out.1) ((hb.cell (p:=⟨w.heap.size+1,0,none⟩) (by rw [HS1.out];show w.heap.size+1<_;omega)).trans HG.out.2) (HCELL.out W hb2 i hi) hi hl) HMONO.out)
 clear hs1
 go_enter Tryz.func40,Tryz.ntmps40
 go_upto_region 1 with (fail)
 rw [← hW1]
 clear hW1
 go_wp2_with fail
 refine SRCH.out.mono ?_
 rintro e w2 ⟨i,rfl,hi,hlo,hhi,hb2⟩
 obtain rfl:i=k:=HFIND.out i hlo hhi
 have HB2:=hide_ (HB1.out.trans (hb2.mono (by have:=HB1.out.size;omega)))
 have g0:=(hb2.cell (p:=⟨w.heap.size,0,none⟩) (by rw [HS1.out];show w.heap.size<_;omega)).trans g0
 have g1:=(HCELL.out w2 HB2.out i hkl)
 rw [HK.out] at g1
 dsimp only [Option.getD] at g1
 have FU:=hide_ (Uint_any p.toNat (by omega) w2 (HTAB.out w2 HB2.out))
 rw [show ((p.toNat:Nat):Int)=p by omega] at FU
 have NS:=hide_ (show ⟨#[97,116]⟩ ++ decT p.toNat=natS p from rfl)
 have SZ:=hide_ (natS_size p p1)
 obtain ⟨sx,hsx⟩:∃ s,s=decT p.toNat:=⟨_,rfl⟩
 rw [← hsx] at FU NS
 clear hsx hlo hhi hb2 hi
 go_wp2_with fail
 refine FU.out.mono ?_
 rintro e w3 ⟨rfl,hb3⟩
 have HB3:=hide_ (HB2.out.trans (hb3.mono HB2.out.size))
 clear hb3 g0 g1
 have JN:=hide_ (fun (W:World) (bk:Nat) (h:Blk W bk 9 #[.string ⟨#[97,116]⟩,.string sx])=>by
  have:=joined_any bk 2 [⟨#[97,116]⟩,sx] W (fun j x hj=>by
   rw [h.cell]
   match j,hj with
   | 0,hj=>simp at hj;subst hj;rfl
   | 1,hj=>simp at hj;subst hj;rfl
   | j+2,hj=>simp at hj) h.lt (by simp) (Nat.le_refl _) (by rw [catL_2,NS.out];have:=SZ.out;omega)
  rw [catL_2,NS.out] at this
  exact this)
 go_wp2_with fail
 refine (JN.out _ _ (Blk.new w3 _ _)).mono ?_
 rintro e w4 ⟨rfl,hb4⟩
 have HB4:=hide_ ((HB3.out.alloc HB3.out.size _).trans (hb4.mono (by have:=HB3.out.size;simp;omega)))
 clear hb4
 go_wp2
 go_ret
 exact ⟨rfl,HB4.out⟩
end Go.Proofs.YtikbegmodacopaaGreatDoor
