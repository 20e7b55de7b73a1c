/-
  Joined and packed by program.
-/
import Derived.Test.YtikbegmodacopaaGreatDoorB12
import Derived.Lib.SlicesCompact
import Derived.Lib.SliceRun
import Derived.Test.YtikbegmodacopaaGreatDoorB09
import Derived.Test.YtikbegmodacopaaGreatDoorB04
import Derived.Test.YtikbegmodacopaaGreatDoorProg
import Derived.Test.YtikbegmodacopaaGreatDoorB01
import Derived.PlainAid
import Derived.Deep.RegionHeld3
import Derived.Lib.LaidTab
import Derived.Lib.AppendIntMem
import Derived.Test.YtikbegmodacopaaGreatDoorB03
namespace Go.Proofs.YtikbegmodacopaaGreatDoor
open Go.RowKit Go.PlainAid Go.BigFrame
open Go.Lib (keeps compactUpTo CompInv lay keeps_lt_one keeps_neg keeps_pos compactUpTo_all range_map_get)
set_option linter.unusedSimpArgs false
set_option linter.unusedVariables false
set_option maxRecDepth 100000
theorem SAt.again_ {B i g c n:Nat} {rs:List Ro} {w w1:World} {d d':Array Int} (h:SAt B i g c n rs w w1 d) (e:d=d'):SAt B i g c n rs w w1 d':=e ▸ h
theorem SAt.cells_ {B i g c n:Nat} {rs:List Ro} {w:World} {r0:Ro} (hr:rs[i]?=some r0):∀ (xs:List Int) (d:Array Int) (k:Nat) (wr:World),SAt B i g c n rs w wr d→k+xs.length≤n→SAt B i g c n rs w (wr.setCells g k (xs.map (Value.int .u32))) (lay d k xs)
 | [],_,_,_,h,_=>h
 | x :: r,d,k,wr,h,hl=>by
  have hl':k+(r.length+1)≤n:=by simpa using hl
  simp only [List.map_cons,World.setCells,lay]
  exact SAt.cells_ hr r _ (k+1) _ (h.one hr (by omega) x) (by omega)
theorem zero_u32 (w:World):(zeroValue 25).run Tryz.prog w=.ok (.int .u32 0) w:=by kernel_rfl
set_option maxHeartbeats 4000000 in
theorem srt_compact (B ix g c n:Nat) (rs:List Ro) (w wr:World) (d:Array Int) (r0:Ro) (h:SAt B ix g c n rs w wr d) (hr:rs[ix]?=some r0) (hn:n<4611686018427387904) (hcap:n≤c) :
  Calls Tryz.prog 72 #[.slice (some ⟨g,0,none⟩) n c] wr fun e w'=>e=.returned (.slice (some ⟨g,0,none⟩) (compactUpTo d n).length c)∧SAt B ix g c n rs w w' (compactUpTo d n ++ List.replicate (n - (compactUpTo d n).length) 0).toArray:=by
 have hds:d.size=n:=h.sz
 have SAME:=hide_ (fun (hall:∀ j,j<n→keeps d j=true)=>show (compactUpTo d n).length=n∧d=(compactUpTo d n ++ List.replicate (n - (compactUpTo d n).length) 0).toArray by
  have e:compactUpTo d n=d.toList:=by rw [compactUpTo_all d _ hall,← hds,range_map_get]
  rw [e]
  refine ⟨by simpa using hds,?_⟩
  simp [hds])
 have HS:=hide_ h
 have HR:=hide_ hr
 have HD:=hide_ hds
 clear h hr hds
 by_cases h2:n<2
 ·go_enter Tryz.func72,Tryz.ntmps72
  go_wp2
  go_ret
  obtain ⟨e1,e2⟩:=SAME.out (fun j hj=>keeps_lt_one d j (by omega))
  exact ⟨by rw [e1];rfl,HS.out.again_ e2⟩
 ·go_enter Tryz.func72,Tryz.ntmps72
  go_wp2
  go_loopw [3] (fun s3 W=>∃ k:Nat,s3=.int .i64 k∧1≤k∧k≤n∧Hid (SAt B ix g c n rs w W d)∧Hid (∀ j,j<k→keeps d j=true)) (fun s3 _=>n - (intOf s3).toNat)
  case atStart=>exact ⟨1,rfl,Nat.le_refl _,by omega,HS,hide_ (keeps_lt_one d)⟩
  case round =>
   clear HS
   obtain ⟨k,rfl,hk1,hk,HS,HA⟩:=hrel
   by_cases hlt:k<n
   ·obtain ⟨m,rfl⟩:∃ m,k=m+1:=⟨k - 1,by omega⟩
    obtain ⟨x,hx⟩:∃ x,x=d[m+1]! := ⟨_,rfl⟩
    obtain ⟨y,hy⟩:∃ y,y=d[m]! := ⟨_,rfl⟩
    have c0:=HS.out.cell HR.out (t:=m+1) (by omega)
    have c1:=HS.out.cell HR.out (t:=m) (by omega)
    have f0:=HS.out.frz HR.out (m+1)
    have f1:=HS.out.frz HR.out m
    rw [← hx] at c0
    rw [← hy] at c1
    have HX:=hide_ (And.intro hx hy)
    clear hx hy
    have g0:decide (m+1<n)=true:=decide_eq_true hlt
    by_cases hdup:x=y
    ·subst hdup
     have gd:(x == x)=true:=by simp
     have START:=hide_ (CompInv.start HA.out (keeps_neg (by omega) (by rw [Nat.add_sub_cancel,← HX.out.1,← HX.out.2])))
     go_wp2_with fail
     go_region
     go_wp2
     clear c0 c1 f0 f1
     go_loopg [3,5] n (fun gk s3 s5 W=>∃ (kk k2:Nat) (dk:Array Int),s3=.int .i64 kk∧s5=.int .i64 k2∧1≤k2∧m+1+k2≤n∧n - (m+1+k2)≤gk∧Hid (SAt B ix g c n rs w W dk)∧Hid (CompInv d (m+1+k2) kk dk))
     case atStart=>exact ⟨m+1,1,d,by go_num,rfl,Nat.le_refl _,by omega,by omega,by first | exact hide_ HS.out.drew | exact hide_ (HS.out.drewN _),START⟩
     case round =>
      clear HS
      obtain ⟨kk,k2,dk,rfl,rfl,h1,hle,hg2,HS,HI⟩:=hrel
      have hkk:=HI.out.lt
      by_cases hlt2:m+1+k2<n
      ·obtain ⟨t,rfl⟩:∃ t,k2=t+1:=⟨k2 - 1,by omega⟩
       obtain ⟨u,hu⟩:∃ x,x=d[m+1+(t+1)]! := ⟨_,rfl⟩
       obtain ⟨v,hv⟩:∃ x,x=d[m+1+t]! := ⟨_,rfl⟩
       have c0:=HS.out.cell HR.out (t:=m+1+(t+1)) (by omega)
       have c1:=HS.out.cell HR.out (t:=m+1+t) (by omega)
       have ck:=HS.out.cell HR.out (t:=kk) (by omega)
       have fk:=HS.out.frz HR.out kk
       rw [HI.out.high (m+1+(t+1)) (by omega),← hu] at c0
       rw [HI.out.high (m+1+t) (by omega),← hv] at c1
       have HX:=hide_ (And.intro hu hv)
       clear hu hv
       obtain ⟨old,hold⟩:∃ x,x=dk[kk]! := ⟨_,rfl⟩
       rw [← hold] at ck
       clear hold
       have g3:decide (t+1<n - (m+1))=true:=decide_eq_true (by omega)
       have g4:(t:Int)+1<(n:Int) - ((m:Int)+1):=by omega
       by_cases huv:u=v
       ·subst huv
        have gd2:(u != u)=false:=by simp
        go_wp2_with fail
        go_region
        go_wp2
        go_roundg (n - (m+1+(t+1+1)))
        case measure=>omega
        case rel=>exact ⟨kk,t+1+1,dk,rfl,by go_num,by omega,by omega,Nat.le_refl _,by first | exact hide_ HS.out.drew | exact hide_ (HS.out.drewN _),hide_ (HI.out.skip (keeps_neg (by omega) (by rw [show m+1+(t+1) - 1=m+1+t by omega,← HX.out.1,← HX.out.2])))⟩
       ·have gd2:(u != v)=true:=by simpa using huv
        have NEW:=hide_ (fun W (hW:SAt B ix g c n rs w W dk)=>hW.one HR.out (t:=kk) (by omega) u)
        have KEEP:=hide_ (show CompInv d (m+1+(t+1+1)) (kk+1) (dk.setIfInBounds kk u) by
         have:=HI.out.keep (by rw [HD.out];exact hlt2) (keeps_pos (by rw [show m+1+(t+1) - 1=m+1+t by omega,← HX.out.1,← HX.out.2];exact huv))
         rwa [← HX.out.1] at this)
        go_wp2_with fail
        go_region
        go_wp2
        go_roundg (n - (m+1+(t+1+1)))
        case measure=>omega
        case rel=>exact ⟨kk+1,t+1+1,dk.setIfInBounds kk u,by go_num,by go_num,by omega,by omega,Nat.le_refl _,by first | exact hide_ (NEW.out _ HS.out).drew | exact hide_ (NEW.out _ HS.out.drew) | exact hide_ (NEW.out _ (HS.out.drewN _)),KEEP⟩
      ·have hend:m+1+k2=n:=by omega
       have hI:=HI.out
       rw [hend] at hI
       have HI2:=hide_ hI
       have hcl:∀ ty,(Builtin.clear_ #[23] ty #[.slice (some ⟨g,kk,none⟩) (n - kk) (c - kk)]).run Tryz.prog wr=.ok (.tuple #[]) (wr.setCells g kk (List.replicate (n - kk) (.int .u32 0))):=fun ty =>
        Lib.run_clear_slice wr _ _ ty _ Tryz.underlying23 zero_u32 rfl rfl g kk _ _ (by omega) (fun j hj=>by rw [HS.out.cell HR.out (t:=kk+j) (by omega)];rfl) (fun j hj=>HS.out.frz HR.out (kk+j))
       have DONE:=hide_ (show SAt B ix g c n rs w (wr.setCells g kk (List.replicate (n - kk) (.int .u32 0))) (compactUpTo d n ++ List.replicate (n - kk) 0).toArray by
        have h9:=SAt.cells_ HR.out (List.replicate (n - kk) 0) dk kk wr HS.out (by simp;omega)
        rw [List.map_replicate] at h9
        refine h9.again_ ?_
        have:=hI
        rw [← HD.out] at this ⊢
        exact this.done 0)
       have LEN:=hide_ (show (compactUpTo d n).length=kk from HI2.out.len)
       have g3:decide (k2<n - (m+1))=false:=decide_eq_false (by omega)
       have g4:¬ (k2:Int)<(n:Int) - ((m:Int)+1):=by omega
       clear hend hI HI HI2 HS
       have g5:kk≤c:=by omega
       have g6:¬ c=kk:=by omega
       go_wp2
       go_ret
       rw [LEN.out]
       exact ⟨rfl,DONE.out⟩
    ·have gd:(x == y)=false:=by simpa using hdup
     go_wp2_with fail
     go_region
     go_wp2
     go_roundw
     case rel =>
      refine ⟨m+1+1,by go_num,by omega,by omega,by first | exact hide_ HS.out.drew | exact hide_ (HS.out.drewN _),hide_ fun j hj=>?_⟩
      by_cases e:j=m+1
      ·subst e
       exact keeps_pos (by rw [Nat.add_sub_cancel,← HX.out.1,← HX.out.2];exact hdup)
      ·exact HA.out j (by omega)
     case measure=>simp [intOf] <;> omega
   ·obtain rfl:k=n:=by omega
    have g0:decide (k<k)=false:=decide_eq_false (by omega)
    go_wp2
    go_ret
    obtain ⟨e1,e2⟩:=SAME.out HA.out
    exact ⟨by rw [e1];rfl,HS.out.again_ e2⟩
theorem ownsRow_front {w:World} {B:Nat} {e:TypeId} {size n m g c:Nat} {xs:List Value} (h:w.ownsRow B e size (.slice (some ⟨g,0,none⟩) n c) n xs) (hm:m≤n):w.ownsRow B e size (.slice (some ⟨g,0,none⟩) m c) m (xs.take (m * size)):=by
 have hle:m * size≤n * size:=Nat.mul_le_mul_right _ hm
 refine ⟨by rw [List.length_take,h.1];omega,?_⟩
 rcases h.2 with ⟨h1,_⟩ | ⟨g',cap,cur,hv,hB,hg,hn,hmx,hs,ht⟩
 ·cases h1
 ·injection hv with h1 _ h3
  injection h1 with h1
  injection h1 with h1
  subst h1 h3
  refine .inr ⟨g,c,cur,rfl,hB,hg,by omega,hmx,hs,?_⟩
  rw [← ht,List.take_take,Nat.min_eq_left hle]
theorem cpt_row {B ix:Nat} {rs:List Ro} {w:World} {v:Value} {l:List Int} (hr:rs[ix]?=some ⟨25,1,v,l.length,l.map (Value.int .u32)⟩) (hO:Owns w B rs) (hB:B≤w.heap.size) (hn:l.length<4611686018427387904) :
  Calls Tryz.prog 72 #[v] w fun e w'=>∃ v',e=.returned v'∧Owns w' B (rs.set ix ⟨25,1,v',(Go.Lib.compact l).length,(Go.Lib.compact l).map (Value.int .u32)⟩)∧Below B w w':=by
 have hat:=hO.at_ hr
 rcases Nat.eq_zero_or_pos l.length with h0 | h0
 ·obtain ⟨A,c,hv,_,_⟩:=ownsRow_slice hat
  obtain rfl:l=[]:=List.eq_nil_of_length_eq_zero h0
  dsimp only at hv
  have hcal:Calls Tryz.prog 72 #[.slice A 0 c] w fun e w'=>e=.returned (.slice A 0 c)∧w'=w:=by
   go_enter Tryz.func72,Tryz.ntmps72
   go_wp2
   go_ret
   exact ⟨rfl,rfl⟩
  have e1:Go.Lib.compact ([]:List Int)=[]:=rfl
  have e:rs.set ix ⟨25,1,v,([]:List Int).length,([]:List Int).map (Value.int .u32)⟩=rs:=by
   apply List.ext_getElem?
   intro j
   rw [List.getElem?_set]
   split
   ·rename_i e
    subst e
    rw [if_pos (List.getElem?_eq_some_iff.1 hr).1,hr]
   ·rfl
  rw [hv]
  refine hcal.mono ?_
  rintro e w' ⟨rfl,rfl⟩
  refine ⟨_,rfl,?_,Below.refl _ _⟩
  rw [e1]
  have h9:=hO
  rw [← e,hv] at h9
  exact h9
 ·obtain ⟨g,c,hv⟩:=ownsRow_some hat h0
  dsimp only at hv
  subst hv
  obtain ⟨_,c',hc1,hc2,_⟩:=ownsRow_slice hat
  have hcc:c'=c:=by injection hc1 with _ _ h;exact h.symm
  subst hcc
  have hs:SAt B ix g c' l.length rs w w l.toArray:=SAt.start (by rw [hr];simp [srow]) (by simp) hO
  refine (srt_compact B ix g c' l.length rs w w l.toArray _ hs hr hn hc2).mono ?_
  rintro e w' ⟨rfl,h⟩
  refine ⟨_,rfl,?_,h.bl⟩
  have hlen:(compactUpTo l.toArray l.length).length≤l.length:=by
   have h1:=h.sz
   simp at h1
   omega
  have h1:=h.ow
  have hi:=srow_at hr (srow g c' l.length (compactUpTo l.toArray l.length ++ List.replicate (l.length - (compactUpTo l.toArray l.length).length) 0).toArray)
  have h2:=ownsRow_front (h1.at_ hi) hlen
  have h3:=h1.turn hi (World.grownBy.refl w' _) (r':=⟨25,1,.slice (some ⟨g,0,none⟩) (compactUpTo l.toArray l.length).length c',(compactUpTo l.toArray l.length).length,(compactUpTo l.toArray l.length).map (Value.int .u32)⟩) (by
   have e9:((compactUpTo l.toArray l.length ++ List.replicate (l.length - (compactUpTo l.toArray l.length).length) 0).toArray.toList.map (Value.int .u32)).take ((compactUpTo l.toArray l.length).length * 1)=(compactUpTo l.toArray l.length).map (Value.int .u32):=by
    rw [Nat.mul_one,List.toList_toArray,List.map_append]
    exact List.take_left' (by simp)
   unfold srow at h2
   dsimp only at h2
   rw [e9] at h2
   exact h2) (.inl rfl)
  rw [List.set_set] at h3
  exact h3
end Go.Proofs.YtikbegmodacopaaGreatDoor
namespace Go.Proofs.YtikbegmodacopaaGreatDoor
set_option maxRecDepth 100000
open Go.RowKit Go.PlainAid
open Go.Lib (keeps compactUpTo compactUpTo_succ keeps_pos keeps_neg)
set_option linter.unusedSimpArgs false
set_option linter.unusedVariables false
theorem cpt_mem (d:Array Int) (v:Int):∀ m,v ∈ compactUpTo d m ↔ ∃ j,j<m∧d[j]! = v
 | 0=>by simp [compactUpTo]
 | m+1=>by
  rw [compactUpTo_succ,List.mem_append,cpt_mem d v m]
  constructor
  ·rintro (⟨j,hj,e⟩ | h)
   ·exact ⟨j,by omega,e⟩
   ·split at h
    ·exact ⟨m,by omega,(List.mem_singleton.1 h).symm⟩
    ·cases h
  ·rintro ⟨j,hj,e⟩
   by_cases hjm:j<m
   ·exact .inl ⟨j,hjm,e⟩
   ·obtain rfl:j=m:=by omega
    cases hk:keeps d j with
    | true=>right;rw [if_pos rfl,e];simp
    | false =>
     left
     unfold keeps at hk
     have hk:=of_decide_eq_false hk
     have h0:j≠0:=fun h=>hk (.inl h)
     have h1:d[j]! = d[j - 1]! := Classical.byContradiction fun h=>hk (.inr h)
     exact ⟨j - 1,by omega,by rw [← h1];exact e⟩
theorem cpt_rise (d:Array Int) (hs:∀ i j,i≤j→j<d.size→d[i]! ≤ d[j]!):∀ m,m≤d.size→(compactUpTo d m).Pairwise (· < ·)
 | 0,_=>by simp [compactUpTo]
 | m+1,hm=>by
  rw [compactUpTo_succ,List.pairwise_append]
  refine ⟨cpt_rise d hs m (by omega),by split <;> simp,fun a ha b hb=>?_⟩
  split at hb
  ·rename_i hk
   obtain rfl:=List.mem_singleton.1 hb
   obtain ⟨j,hj,rfl⟩:=(cpt_mem d a m).1 ha
   unfold keeps at hk
   have hk:=of_decide_eq_true hk
   have h1:d[m]! ≠ d[m - 1]! := by
    rcases hk with h | h
    ·omega
    ·exact h
   have h2:=hs j (m - 1) (by omega) (by omega)
   have h3:=hs (m - 1) m (by omega) (by omega)
   omega
  ·cases hb
theorem rise_ext:∀ {a b:List Int},a.Pairwise (· < ·)→b.Pairwise (· < ·)→(∀ v,v ∈ a ↔ v ∈ b)→a=b
 | [],[],_,_,_=>rfl
 | [],y :: b,_,_,h=>absurd ((h y).2 (by simp)) (by simp)
 | x :: a,[],_,_,h=>absurd ((h x).1 (by simp)) (by simp)
 | x :: a,y :: b,ha,hb,h=>by
  have hx:=List.pairwise_cons.1 ha
  have hy:=List.pairwise_cons.1 hb
  have e:x=y:=by
   have h1:=(h x).1 (by simp)
   have h2:=(h y).2 (by simp)
   rcases List.mem_cons.1 h1 with h1 | h1
   ·exact h1
   ·rcases List.mem_cons.1 h2 with h2 | h2
    ·exact h2.symm
    ·have:=hy.1 x h1
     have:=hx.1 y h2
     omega
  subst e
  congr 1
  refine rise_ext hx.2 hy.2 fun v=>⟨fun hv=>?_,fun hv=>?_⟩
  ·rcases List.mem_cons.1 ((h v).1 (by simp [hv])) with e | e
   ·have:=hx.1 v hv;omega
   ·exact e
  ·rcases List.mem_cons.1 ((h v).2 (by simp [hv])) with e | e
   ·have:=hy.1 v hv;omega
   ·exact e
theorem sorted_get {l:List Int} (h:l.Pairwise (· ≤ ·)):∀ i j,i≤j→j<l.toArray.size→l.toArray[i]! ≤ l.toArray[j]! := by
 intro i j hij hj
 have hj':j<l.length:=by simpa using hj
 rw [getElem!_pos l.toArray i (by simp;omega),getElem!_pos l.toArray j hj]
 simp only [List.getElem_toArray]
 rcases Nat.eq_or_lt_of_le hij with rfl | hlt
 ·exact Int.le_refl _
 ·exact List.pairwise_iff_getElem.1 h i j (by omega) hj' hlt
def sortC (l:List Int):List Int:=Go.Lib.compact (l.mergeSort fun a b=>decide (a≤b))
theorem ms_sorted (l:List Int):(l.mergeSort fun a b=>decide (a≤b)).Pairwise (· ≤ ·):=by
 have:=List.pairwise_mergeSort (le:=fun a b:Int=>decide (a≤b)) (fun a b c h1 h2=>by simp at *;omega) (fun a b=>by simp;omega) l
 exact this.imp fun h=>by simpa using h
theorem sortC_mem (l:List Int) (v:Int):v ∈ sortC l ↔ v ∈ l:=by
 unfold sortC Go.Lib.compact
 rw [cpt_mem,← (List.mergeSort_perm l fun a b=>decide (a≤b)).mem_iff]
 generalize l.mergeSort _=q
 constructor
 ·rintro ⟨j,hj,e⟩
  rw [getElem!_pos q.toArray j (by simpa using hj)] at e
  rw [← e]
  simp
 ·intro h
  obtain ⟨j,hj⟩:=List.mem_iff_getElem?.1 h
  obtain ⟨hj1,hj2⟩:=List.getElem?_eq_some_iff.1 hj
  exact ⟨j,hj1,by rw [getElem!_pos q.toArray j (by simpa using hj1)];simpa using hj2⟩
theorem sortC_rise (l:List Int):(sortC l).Pairwise (· < ·):=by
 unfold sortC Go.Lib.compact
 exact cpt_rise _ (sorted_get (ms_sorted l)) _ (by simp)
def stB (n:Nat) (t:Int × Int):Bool:=decide ((opR t.1).kind=3∨(opR t.1).kind=2) && decide (t.2≤n)
def allP (x:ImgV):List Int:=x.jumps ++ x.names.map (·.at_) ++ (x.code.filter (stB x.code.length)).map (·.2)
def jmpOk (x:ImgV) (i:Nat):Bool:=match x.jumps[i]? with
 | none=>true
 | some j=>decide (j≤x.code.length) && (decide (i=0) || match x.jumps[i - 1]? with
  | none=>true
  | some p=>decide (p<j))
def jmpsB (x:ImgV):Bool:=(List.range x.jumps.length).all (jmpOk x)
def natB (x:ImgV):Bool:=x.names.all fun t=>decide (t.at_≤x.code.length)
def begB (x:ImgV):Bool:=jmpsB x && natB x
def plc (x:ImgV):List Int:=sortC (allP x)
theorem jmpOk_0 {x:ImgV} {j:Int} (h:x.jumps[0]?=some j):jmpOk x 0=decide (j≤x.code.length):=by unfold jmpOk;rw [h];simp
theorem jmpOk_s {x:ImgV} {k:Nat} {j p:Int} (h:x.jumps[k+1]?=some j) (hp:x.jumps[k]?=some p):jmpOk x (k+1)=(decide (j≤x.code.length) && decide (p<j)):=by unfold jmpOk;rw [h];simp [hp]
theorem jmpsB_all {x:ImgV} (h:∀ j,j<x.jumps.length→jmpOk x j=true):jmpsB x=true:=List.all_eq_true.2 fun j hj=>h j (List.mem_range.1 hj)
theorem jmpsB_no {x:ImgV} {k:Nat} (hk:k<x.jumps.length) (h:jmpOk x k=false):jmpsB x=false:=by
 rw [Bool.eq_false_iff]
 intro h2
 have:=List.all_eq_true.1 h2 k (List.mem_range.2 hk)
 rw [h] at this
 cases this
theorem natB_no {x:ImgV} {k:Nat} {t:ExpV} (hk:x.names[k]?=some t) (h:¬ t.at_≤x.code.length):natB x=false:=by
 rw [Bool.eq_false_iff]
 intro h2
 have:=List.all_eq_true.1 h2 t (List.mem_of_getElem? hk)
 simp at this
 omega
theorem allP_le {x:ImgV} (hx:ImgOk x) (hb:begB x=true):∀ v ∈ allP x,0≤v∧v≤x.code.length:=by
 unfold begB at hb
 rw [Bool.and_eq_true] at hb
 intro v hv
 unfold allP at hv
 rcases List.mem_append.1 hv with hv | hv
 ·rcases List.mem_append.1 hv with hv | hv
  ·obtain ⟨k,hk⟩:=List.mem_iff_getElem?.1 hv
   have h1:=List.all_eq_true.1 hb.1 k (List.mem_range.2 (List.getElem?_eq_some_iff.1 hk).1)
   unfold jmpOk at h1
   rw [hk] at h1
   simp at h1
   exact ⟨(hx.jumps v hv).1,h1.1⟩
  ·obtain ⟨t,ht,rfl⟩:=List.mem_map.1 hv
   have h1:=List.all_eq_true.1 hb.2 t ht
   simp at h1
   exact ⟨(hx.names t ht).2.1,h1⟩
 ·obtain ⟨t,ht,rfl⟩:=List.mem_map.1 hv
  have h1:=(List.mem_filter.1 ht)
  have h2:=h1.2
  unfold stB at h2
  simp at h2
  exact ⟨(hx.code t h1.1).2.1,h2.2⟩
def plcR (x:ImgV):List Int:=((List.range (x.code.length+1)).filter fun i=>decide (((i:Nat):Int) ∈ allP x)).map fun i=>((i:Nat):Int)
theorem plc_eq {x:ImgV} (hx:ImgOk x) (hb:begB x=true):plc x=plcR x:=by
 refine rise_ext (sortC_rise _) ?_ fun v=>?_
 ·unfold plcR
  rw [List.pairwise_map]
  refine (List.pairwise_lt_range.sublist List.filter_sublist).imp fun h=>by omega
 ·unfold plc
  rw [sortC_mem]
  unfold plcR
  constructor
  ·intro h
   obtain ⟨h0,h1⟩:=allP_le hx hb v h
   refine List.mem_map.2 ⟨v.toNat,List.mem_filter.2 ⟨List.mem_range.2 (by omega),?_⟩,by omega⟩
   rw [decide_eq_true_eq,show ((v.toNat:Nat):Int)=v by omega]
   exact h
  ·intro h
   obtain ⟨i,hi,rfl⟩:=List.mem_map.1 h
   exact of_decide_eq_true (List.mem_filter.1 hi).2
end Go.Proofs.YtikbegmodacopaaGreatDoor

namespace Go.Proofs.YtikbegmodacopaaGreatDoor
set_option maxRecDepth 100000
open Go.RowKit
set_option linter.unusedSimpArgs false
set_option linter.unusedVariables false
abbrev u8q (xs:List Int):List Value:=xs.map (Value.int .u8)
theorem dcm_str {P:Program} (w:World) (B:Nat) (src e:TypeId) (hs:P.underlying src=some (.slice e)) (he:P.underlying e=some (.int .u8)) (A:Option Addr) (n c:Nat) (l:List Int)
  (h:Reads w B 1 A n (u8q l)) (dst:TypeId) (hd:P.underlying dst=some .string) :
  (convert src dst (.slice A n c)).run P w=.ok (.string (strOfNums l)) w:=by
 have hl:l.length=n:=by simpa using h.1
 cases A with
 | none =>
  have h0:n=0:=by
   rcases Nat.eq_zero_or_pos n with c | c
   ·exact c
   ·obtain ⟨ad,e,_⟩:=h.2 c;cases e
  subst h0
  obtain rfl:l=[]:=List.eq_nil_of_length_eq_zero hl
  rw [run_convert_bytes_nil w src e hs he 0 c dst hd]
  rfl
 | some a =>
  have hld:(loadCells a n).run P w=.ok (l.map (Value.int .u8)).toArray w:=by
   have:=run_loadCells_list (P:=P) w a (l.map (Value.int .u8)) (fun j v hj=>by
    have hj':j<n:=by
     rw [← hl]
     have:=(List.getElem?_eq_some_iff.1 hj).1
     simpa using this
    obtain ⟨ad,e,_,hc⟩:=h.2 (by omega)
    injection e with e
    subst e
    exact hc j v hj)
   simpa [hl] using this
  rw [run_convert_bytes_string w src dst e _ n c hs he hd,run_bytesToString w _ n c _ hld,foldl_push_bytes]
  simp [strOfNums,ByteArray.empty,ByteArray.emptyWithCapacity]
  rfl
def dcm (v:Nat):List Int:=(Lib.decDigits v).map fun b=>(b.toNat:Int)
theorem dcm_str_eq (v:Nat):strOfNums (dcm v)=⟨(Lib.decDigits v).toArray⟩:=by
 unfold strOfNums dcm
 congr 1
 rw [List.map_map]
 congr 1
 conv=>rhs;rw [← List.map_id (Lib.decDigits v)]
 exact List.map_congr_left fun b _=>by simp
theorem dcm_low {v:Nat} (h:v<10):dcm v=[48+(v:Int)]:=by
 unfold dcm
 rw [Lib.decDigits,dif_pos h]
 simp
 omega
theorem dcm_high {v:Nat} (h:¬ v<10):dcm v=dcm (v / 10) ++ [48+((v % 10:Nat):Int)]:=by
 unfold dcm
 rw [Lib.decDigits,dif_neg h,List.map_append]
 simp
 omega
def d0 (v:Nat):List Int:=if v=0 then [] else dcm v
theorem d0_pos {v:Nat} (h:v≠0):d0 v=d0 (v / 10) ++ [48+((v % 10:Nat):Int)]:=by
 unfold d0
 rw [if_neg h]
 by_cases h1:v<10
 ·rw [dcm_low h1,if_pos (by omega),Nat.mod_eq_of_lt h1]
  rfl
 ·rw [dcm_high h1,if_neg (by omega)]
theorem u32_block (w:World) (x:Nat):Reads (w.alloc (.cells #[.int .u32 x,.int .u32 0] 25)) (w.alloc (.cells #[.int .u32 x,.int .u32 0] 25)).heap.size 1 (some ⟨w.heap.size,0,none⟩) 1 [.int .u32 x] :=
 ⟨rfl,fun _=>⟨_,rfl,by simp,fun j u hu=>by
   have hj:j=0:=by
    have:=(List.getElem?_eq_some_iff.1 hu).1
    simp at this
    omega
   subst hj
   simp at hu
   subst hu
   simp [Addr.add]⟩⟩
def natL (x:Nat):List Value:=if x=0 then [] else [.int .u32 x]
def natN (x:Nat):Nat:=if x=0 then 0 else 1
set_option maxHeartbeats 1000000 in
theorem nat_any (x:Nat) (hx:x<4294967296) (w:World):Calls Tryz.prog 135 #[.int .u64 x] w fun e w'=>∃ A,e=.returned (.slice A (natN x) 2)∧Reads w' w'.heap.size 1 A (natN x) (natL x)∧Below w.heap.size w w':=by
 by_cases h0:x=0
 ·subst h0
  go_enter Tryz.func135,Tryz.ntmps135
  go_wp2
  go_loop [4] (fun n=>∃ k:Nat,k≤2∧n=.int .i64 k) (fun n=>(intOf n).toNat)
  case atStart=>exact ⟨2,by omega,rfl⟩
  case round =>
   obtain ⟨k,hk,rfl⟩:=hrel
   rcases (show k=0∨k=1∨k=2 by omega) with rfl | rfl | rfl
   ·go_wp2
    go_ret
    exact ⟨_,rfl,⟨rfl,fun h=>absurd h (by simp [natN])⟩,(Below.refl _ _).alloc (Nat.le_refl _) _⟩
   ·go_wp2
    go_round
    case rel=>exact ⟨0,by omega,rfl⟩
    case measure=>simp [intOf]
   ·go_wp2
    go_round
    case rel=>exact ⟨1,by omega,rfl⟩
    case measure=>simp [intOf]
 ·have e1:(x:Int) % 4294967296=x:=by omega
  have e2:(x:Int) / 4294967296=0:=by omega
  have e3:((x:Int) == 0)=false:=by simpa using h0
  have hN:natN x=1:=if_neg h0
  have hL:natL x=[.int .u32 x]:=if_neg h0
  have HR:=hide_ (u32_block w x)
  have HN:=hide_ hN
  have HL:=hide_ hL
  clear hN hL h0
  have x0:(0:Int)≤x:=by omega
  have x1:(x:Int)<4294967296:=by omega
  go_enter Tryz.func135,Tryz.ntmps135
  go_wp2
  go_loop [4] (fun n=>∃ k:Nat,1≤k∧k≤2∧n=.int .i64 k) (fun n=>(intOf n).toNat)
  case atStart=>exact ⟨2,by omega,by omega,rfl⟩
  case round =>
   obtain ⟨k,hk1,hk,rfl⟩:=hrel
   rcases (show k=1∨k=2 by omega) with rfl | rfl
   ·go_wp2
    go_ret
    exact ⟨_,by rw [HN.out];rfl,by rw [HN.out,HL.out];exact HR.out,(Below.refl _ _).alloc (Nat.le_refl _) _⟩
   ·go_wp2
    go_round
    case rel=>exact ⟨1,by omega,by omega,rfl⟩
    case measure=>simp [intOf]
end Go.Proofs.YtikbegmodacopaaGreatDoor
namespace Go.Proofs.YtikbegmodacopaaGreatDoor
set_option maxRecDepth 100000
open Go.RowKit Go.PlainAid Go.BigFrame
set_option linter.unusedSimpArgs false
set_option linter.unusedVariables false
theorem d0_len (v:Nat):(d0 v).length≤v:=by
 induction v using Nat.strongRecOn with
 | _ v ih =>
  by_cases h:v=0
  ·subst h;simp [d0]
  ·rw [d0_pos h,List.length_append]
   have:=ih (v / 10) (by omega)
   simp
   omega
theorem d0_dcm {v:Nat} (h:v≠0):strOfNums (d0 v)=⟨(Lib.decDigits v).toArray⟩:=by
 unfold d0
 rw [if_neg h]
 exact dcm_str_eq v
def sLen:Value→Nat
 | .slice _ n _=>n
 | _=>0
theorem info_u8q:(Tryz.prog.info? 5).map (fun i=>(i.zero,i.size,i.bytes))=some (some (.int .u8 0),1,1):=by kernel_rfl
theorem info_u32q:(Tryz.prog.info? 25).map (fun i=>(i.zero,i.size,i.bytes))=some (some (.int .u32 0),1,4):=by kernel_rfl
def InD (w1:World) (x:Nat) (rest next i:Value) (wr2:World):Prop :=
 (rest=.int .u64 0∧next=.slice none 0 0∧i=.int .i64 0∧wr2=w1) ∨
 (rest=.int .u64 ((x % 10:Nat):Int)∧i=.int .i64 (-1)∧(∃ A1 c1,next=.slice A1 1 c1∧1≤c1∧Reads wr2 wr2.heap.size 1 A1 1 [.int .u32 ((x / 10:Nat):Int)])∧Below w1.heap.size w1 wr2)
def OutD (w:World) (v:Nat) (a out:Value) (wr:World):Prop :=
 ∃ x:Nat,x≤v∧(∃ A1 c1,a=.slice A1 (natN x) c1∧Reads wr wr.heap.size 1 A1 (natN x) (natL x)) ∧
  (∃ A2 c2 l,out=.slice A2 l.length c2∧Reads wr wr.heap.size 1 A2 l.length (u8q l)∧d0 x ++ l=d0 v)∧Below w.heap.size w wr
theorem after_app {wo wr w1:World} {A3 A4:Option Addr} {c4 v x:Nat} {l:List Int} {r:Int} (hb3:Below wo.heap.size wo wr) (h3:Reads wr wr.heap.size 1 A3 1 [.int .u32 ((x / 10:Nat):Int)])
  (hown:w1.ownsRow wr.heap.size 5 1 (.slice A4 (1+l.length) c4) (1+l.length) ([.int .u8 (48+r)] ++ u8q l)) (hgr:(wr.alloc (.cells #[.int .u8 (48+r)] 5)).grownBy w1 (Value.slice (some ⟨wr.heap.size,0,none⟩) 1 1).ownBlock)
  (hl:d0 x ++ l=d0 v) (hd:d0 x=d0 (x / 10) ++ [48+((x % 10:Nat):Int)]) (hr:r=((x % 10:Nat):Int)) :
  Hid (Below wr.heap.size wr w1∧Reads w1 w1.heap.size 1 A4 (1+l.length) (u8q ((48+r) :: l))∧Reads w1 w1.heap.size 1 A3 1 [.int .u32 ((x / 10:Nat):Int)]∧d0 (x / 10) ++ ((48+r) :: l)=d0 v):=by
 have hb:Below wr.heap.size wr w1:=((Below.refl _ _).alloc (Nat.le_refl _) _).grown hgr (by simp) (fun j ej=>by simp [Value.ownBlock] at ej;omega)
 refine hide_ ⟨hb,Reads.of_own hown,(h3.below hb).more hb.size,?_⟩
 rw [← hl,hd,hr,List.append_assoc]
 rfl
set_option maxHeartbeats 4000000 in
theorem decimal_any (A:Option Addr) (c v:Nat) (hv:v<4294967296) (w:World) (hr:Reads w w.heap.size 1 A (natN v) (natL v)) :
  Calls Tryz.prog 134 #[.slice A (natN v) c] w fun e w'=>e=.returned (.string ⟨(Lib.decDigits v).toArray⟩)∧Below w.heap.size w w':=by
 obtain ⟨i0,hi0,hz0,hz1,hz2⟩:=info_parts info_u8q
 obtain ⟨i1,hi1,hy0,hy1,hy2⟩:=info_parts info_u32q
 have H0:=hide_ (show OutD w v (.slice A (natN v) c) (.slice none 0 0) w from ⟨v,Nat.le_refl _,⟨A,c,rfl,hr⟩,⟨none,0,[],rfl,Reads.none_,List.append_nil _⟩,Below.refl _ _⟩)
 clear hr
 go_enter Tryz.func134,Tryz.ntmps134
 go_wp2
 go_loopw [0,3] (fun a out wr=>OutD w v a out wr) (fun _ out _=>v+1 - sLen out)
 case atStart=>exact H0.out
 case round =>
  clear H0
  obtain ⟨x,hx,⟨A1,c1,rfl,h1⟩,⟨A2,c2,l,rfl,h2,hl⟩,hb⟩:=hrel
  have hll:l.length≤v:=by
   have:=congrArg List.length hl
   rw [List.length_append] at this
   have:=d0_len v
   omega
  obtain ⟨wo,rfl⟩:∃ wo:World,wo=wr:=⟨_,rfl⟩
  by_cases h0:x=0
  ·subst h0
   have hl':l=d0 v:=hl
   subst hl'
   rw [show natN 0=0 from rfl]
   by_cases hv0:v=0
   ·subst hv0
    rw [show (d0 0).length=0 from rfl]
    have HB:=hide_ hb
    clear hb hl h1 h2 hll
    go_wp2
    go_ret
    exact ⟨by rw [show Lib.decDigits 0=[48] from Lib.decDigits_one (by omega)];rfl,HB.out⟩
   ·have hcv:=dcm_str wo wo.heap.size 24 5 Tryz.underlying24 Tryz.underlying5 A2 _ c2 _ h2 9 Tryz.underlying9
    have hne:decide ((d0 v).length=0)=false:=by
     rw [d0_pos hv0]
     simp
    rw [d0_dcm hv0] at hcv
    have hne2:(((d0 v).length:Int) == 0)=false:=by
     rw [d0_pos hv0]
     simp
     omega
    obtain ⟨L,hL⟩:∃ L,L=(d0 v).length:=⟨_,rfl⟩
    rw [← hL] at hcv hne hne2 ⊢
    have HB:=hide_ hb
    clear hb hl h1 h2 hll hL
    go_wp2
    go_ret
    exact ⟨rfl,HB.out⟩
  ·have hN:natN x=1:=if_neg h0
   have hL:natL x=[.int .u32 x]:=if_neg h0
   have hD:=d0_pos h0
   rw [hN,hL] at h1
   rw [hN]
   obtain ⟨ad,rfl,hbk,hc⟩:=h1.2 (by omega)
   have hc0:=hc 0 _ rfl
   rw [show ad.add 0=ad from by simp [Addr.add]] at hc0
   have hx0:(0:Int)≤x:=by omega
   have hx1:(x:Int)<4294967296:=by omega
   obtain ⟨xi,hxi⟩:∃ xi:Int,xi=(x:Int):=⟨_,rfl⟩
   rw [← hxi] at hc0 hx0 hx1
   have HX:=hide_ hxi
   have HB:=hide_ hb
   have H2:=hide_ h2
   have HL:=hide_ hl
   have HD:=hide_ hD
   have HLL:=hide_ hll
   clear hb h2 hl hD hll hN hL hc h1 hxi h0
   go_wp2
   go_loopw [4,5,6] (fun rest next i wr=>InD wo x rest next i wr) (fun _ _ i _=>(intOf i+1).toNat)
   case atStart=>exact .inl ⟨rfl,rfl,rfl,rfl⟩
   case round =>
    rcases hrel with ⟨rfl,rfl,rfl,rfl⟩ | ⟨rfl,rfl,⟨A3,c3,rfl,hc3,h3⟩,hb3⟩
    ·go_wp2
     go_roundw
     case rel=>exact .inr ⟨by rw [HX.out];exact congrArg (Value.int .u64) (by omega),rfl,⟨_,_,rfl,Nat.le_refl _,by rw [HX.out,show ((x:Int) / 10)=((x / 10:Nat):Int) by omega];exact (reads_new _ 25 1 1 [.int .u32 ((x / 10:Nat):Int)] rfl).more (by simp)⟩,(Below.refl _ _).alloc (Nat.le_refl _) _⟩
     case measure=>simp [intOf]
    ·have hg1:((((x % 10:Nat):Int)+48) % 256:Int)=48+((x % 10:Nat):Int):=by omega
     have hg2:((48+((x % 10:Nat):Int)) % 256:Int)=48+((x % 10:Nat):Int):=by omega
     obtain ⟨r,hr⟩:∃ r:Int,r=((x % 10:Nat):Int):=⟨_,rfl⟩
     have hr0:0≤r∧r<10:=by omega
     obtain ⟨hr0,hr1⟩:=hr0
     rw [← hr] at hg1 hg2 ⊢
     have HR:=hide_ hr
     have H3:=hide_ h3
     have HB3:=hide_ hb3
     have HC3:=hide_ hc3
     clear hr h3 hb3 hg1 hc0 hbk hc3
     have HBW0:=HB3
     go_wp2_with (at_builtin;go_must (refine wpList_append_any _ rfl (.tmp 37) (.tmp 38) 24 rfl wr.heap.size 5 i0 _ 1 1 Tryz.underlying24 hi0 hz0 hz1 hz2 rfl (by omega) (.slice (some ⟨wr.heap.size,0,none⟩) 1 1) 1 [.int .u8 (48+r)] rfl (blk_own (cs:=#[.int .u8 (48+r)]) (Blk.new wr 5 #[.int .u8 (48+r)]) (Nat.le_refl _) (by simp [maxLen])) wo.heap.size A2 l.length c2 (u8q l) rfl ((H2.out.below HB3.out).alloc HB3.out.size _) (by intro u hu;obtain ⟨z,_,rfl⟩:=List.mem_map.1 hu;rfl) (by have:=HLL.out;simp only [maxLen];omega) (by have:=HLL.out;omega) (by simp) ?_);intro v' w1 hown hgr _;obtain ⟨A4,c4,rfl,_,_⟩:=ownsRow_slice hown;have HAF:=after_app HB3.out H3.out hown hgr HL.out HD.out HR.out;clear hown hgr)
     obtain ⟨hbw,hout,hnx,hdd⟩:=HAF.out
     obtain ⟨ad3,rfl,hbk3,hc4⟩:=hnx.2 (by omega)
     have hc5:=hc4 0 _ rfl
     rw [show ad3.add 0=ad3 from by simp [Addr.add]] at hc5
     have hc3':=HC3.out
     obtain ⟨y,hy⟩:∃ y:Nat,y=x / 10:=⟨_,rfl⟩
     have hyv:y≤v:=by omega
     rw [← hy] at hc5 hnx hdd
     have HOUT:=hide_ hout
     have HNX:=hide_ hnx
     have HDD:=hide_ hdd
     have HBW:=hide_ (HB.out.trans ((HBW0.out.trans (hbw.mono HBW0.out.size)).mono HB.out.size))
     clear hbw hout hnx hdd hc4 HAF hy hx
     by_cases hy0:y=0
     ·subst hy0
      go_loop [7] (fun n=>∃ k:Nat,k≤1∧n=.int .i64 k) (fun n=>(intOf n).toNat)
      case atStart=>exact ⟨1,by omega,rfl⟩
      case round =>
       obtain ⟨k,hk,rfl⟩:=hrel
       rcases (show k=0∨k=1 by omega) with rfl | rfl
       ·go_wp2
        go_roundw
        case rel=>exact ⟨0,by omega,⟨_,c3,rfl,rfl,fun h=>absurd h (by simp [natN])⟩,⟨A4,c4,(48+r) :: l,by simp [Nat.add_comm],by rw [show ((48+r) :: l).length=1+l.length by simp [Nat.add_comm]];exact HOUT.out,HDD.out⟩,HBW.out⟩
        case measure=>have:=HLL.out;simp [sLen];omega
       ·go_wp2
        go_round
        case rel=>exact ⟨0,by omega,rfl⟩
        case measure=>simp [intOf]
     ·have hyb:(((y:Nat):Int) == 0)=false:=by simpa using hy0
      have hNy:natN y=1:=if_neg hy0
      have hLy:natL y=[.int .u32 y]:=if_neg hy0
      have HNL:=hide_ (show natN y=1∧natL y=[.int .u32 y] from ⟨hNy,hLy⟩)
      clear hNy hLy hy0
      go_loop [7] (fun n=>n=.int .i64 1) (fun n=>(intOf n).toNat)
      case atStart=>exact rfl
      case round =>
       subst hrel
       go_wp2
       go_roundw
       case rel=>exact ⟨y,hyv,⟨_,c3,by rw [HNL.out.1],by rw [HNL.out.1,HNL.out.2];exact HNX.out⟩,⟨A4,c4,(48+r) :: l,by simp [Nat.add_comm],by rw [show ((48+r) :: l).length=1+l.length by simp [Nat.add_comm]];exact HOUT.out,HDD.out⟩,HBW.out⟩
       case measure=>have:=HLL.out;simp [sLen];omega
end Go.Proofs.YtikbegmodacopaaGreatDoor
namespace Go.Proofs.YtikbegmodacopaaGreatDoor
set_option maxRecDepth 100000
open Go.RowKit Go.PlainAid Go.BigFrame Go.Shelf Go.Lib
set_option linter.unusedSimpArgs false
set_option linter.unusedVariables false
def TabOk (w:World):Prop:=Lib.TabIs Tryz.prog w "internal/strconv.uint64pow10" .u64 Lib.pow10Tab
theorem TabOk.below {w w':World} (h:TabOk w) (hb:Below w.heap.size w w'):TabOk w':=by
 unfold TabOk Lib.TabIs World.var? at h ⊢
 cases hg:Tryz.prog.globalNamed "internal/strconv.uint64pow10" with
 | none=>rw [hg] at h;exact absurd h (by simp)
 | some g =>
  rw [hg] at h
  simp only [Option.bind_some] at h ⊢
  have hlt:g<w.heap.size:=by
   rcases Nat.lt_or_ge g w.heap.size with h1 | h1
   ·exact h1
   ·rw [Array.getElem?_eq_none h1] at h
    exact absurd h (by simp)
  rw [hb.block g hlt]
  exact h
def sv (x:Int):Int:=if 2147483648≤x then x - 4294967296 else x
def sgnT (x:Int):ByteArray:=⟨(Lib.itoa (sv x)).toArray⟩
theorem sgnT_neg {x:Int} (h:2147483648≤x) (h1:x<4294967296):sgnT x=⟨#[45]⟩ ++ ⟨(Lib.decDigits (4294967296 - x).toNat).toArray⟩:=by
 unfold sgnT sv
 rw [if_pos h,show x - 4294967296 = -(((4294967296 - x).toNat:Nat):Int) by omega,Lib.itoa_neg _ (by omega)]
 apply ByteArray.ext
 simp
theorem sgnT_pos {x:Int} (h0:0≤x) (h:¬ 2147483648≤x):sgnT x=⟨(Lib.decDigits x.toNat).toArray⟩:=by
 unfold sgnT sv
 rw [if_neg h,show Lib.itoa x=Lib.itoa ((x.toNat:Nat):Int) by rw [Int.toNat_of_nonneg h0],Lib.itoa_nonneg]
theorem i32_sv {x:Int} (h0:0≤x) (h1:x<4294967296):IntKind.i32.wrap x=sv x:=by
 unfold sv IntKind.wrap
 simp [IntKind.bits,IntKind.signed]
 split <;> omega
set_option maxHeartbeats 1000000 in
theorem Signed_any (x:Int) (h0:0≤x) (h1:x<4294967296) (w:World) (hT:TabOk w):Calls Tryz.prog 67 #[.int .u32 x] w fun e w'=>e=.returned (.string (sgnT x))∧Below w.heap.size w w':=by
 have hw:=i32_sv h0 h1
 have hb : -2147483648≤sv x∧sv x≤2147483647:=by unfold sv;split <;> omega
 obtain ⟨b0,b1⟩:=hb
 unfold sgnT
 obtain ⟨y,hy⟩:∃ y,y=sv x:=⟨_,rfl⟩
 rw [← hy] at hw b0 b1 ⊢
 have HT:=hide_ hT
 clear hT hy
 go_enter Tryz.func67,Tryz.ntmps67
 go_wp2_with fail
 refine (Tryz.strconv_Itoa y (by omega) (by omega) _ HT.out).mono ?_
 rintro e w1 ⟨rfl,k,os,rfl⟩
 have HB:=hide_ (below_grow w.heap.size w (Nat.le_refl _) k os)
 go_wp2
 go_ret
 exact ⟨rfl,HB.out⟩
set_option maxHeartbeats 1000000 in
theorem rSigned_any (x:Int) (h0:0≤x) (h1:x<4294967296) (w:World):Calls Tryz.prog 101 #[.int .u32 x] w fun e w'=>e=.returned (.string (sgnT x))∧Below w.heap.size w w':=by
 by_cases h:2147483648≤x
 ·have d1:decide (2147483648≤x)=true:=decide_eq_true h
  rw [sgnT_neg h h1]
  obtain ⟨n,hn⟩:∃ n:Nat,n=(4294967296 - x).toNat:=⟨_,rfl⟩
  have hx:4294967296 - x=(n:Int):=by omega
  have hn2:n<4294967296:=by omega
  have hlen:1+(decDigits n).length≤9223372036854775807:=by
   have h1:=d0_len n
   have h2:n≠0:=by omega
   unfold d0 dcm at h1
   rw [if_neg h2,List.length_map] at h1
   omega
  rw [← hn]
  clear hn
  have HX:=hide_ hx
  clear hx
  go_enter Tryz.func101,Tryz.ntmps101
  go_wp2_with fail
  rw [HX.out]
  refine (nat_any n hn2 _).mono ?_
  rintro e w1 ⟨A,rfl,hr,hb⟩
  have HB:=hide_ hb
  have HR:=hide_ hr
  clear hb hr
  go_wp2_with fail
  refine (decimal_any A 2 n hn2 _ HR.out).mono ?_
  rintro e w2 ⟨rfl,hb2⟩
  have HB2:=hide_ (HB.out.trans (hb2.mono HB.out.size))
  clear hb2
  go_wp2
  go_ret
  exact ⟨rfl,HB2.out⟩
 ·have d1:decide (2147483648≤x)=false:=decide_eq_false h
  rw [sgnT_pos h0 h]
  obtain ⟨n,hn⟩:∃ n:Nat,n=x.toNat:=⟨_,rfl⟩
  have hx:x=(n:Int):=by omega
  subst hx
  have hn2:n<4294967296:=by omega
  rw [← hn]
  clear hn
  go_enter Tryz.func101,Tryz.ntmps101
  go_wp2_with fail
  refine (nat_any n hn2 _).mono ?_
  rintro e w1 ⟨A,rfl,hr,hb⟩
  have HB:=hide_ hb
  have HR:=hide_ hr
  clear hb hr
  go_wp2_with fail
  refine (decimal_any A 2 n hn2 _ HR.out).mono ?_
  rintro e w2 ⟨rfl,hb2⟩
  have HB2:=hide_ (HB.out.trans (hb2.mono HB.out.size))
  clear hb2
  go_wp2
  go_ret
  exact ⟨rfl,HB2.out⟩
end Go.Proofs.YtikbegmodacopaaGreatDoor
namespace Go.Proofs.YtikbegmodacopaaGreatDoor
open Go.RowKit Go.PlainAid Go.Shelf Go.Sort
set_option linter.unusedSimpArgs false
set_option linter.unusedVariables false
set_option maxRecDepth 100000
def decT (n:Nat):ByteArray:=⟨(Lib.decDigits n).toArray⟩
set_option maxHeartbeats 2000000 in
theorem inUint_any (u:Nat) (hu64:u<18446744073709551616) (w:World) (hT:TabOk w) :
  Calls Tryz.prog 106 #[.int .u64 u,.int .i64 10] w fun e w'=>e=.returned (.string (decT u))∧Below w.heap.size w w':=by
 unfold decT
 by_cases hs:u<100
 ·have hsi:(u:Int)<100:=by omega
  go_enter Tryz.func106,Tryz.ntmps106
  go_wp2_with fail
  refine (Tryz.internal_strconv_small u hs _).mono ?_
  rintro e w' ⟨rfl,rfl⟩
  go_wp2
  go_ret
  exact ⟨rfl,Below.refl _ _⟩
 ·have hu1:1≤u:=by omega
  have hsi:¬ (u:Int)<100:=by omega
  have hnd20:Lib.nDigits u≤20:=by have:=Lib.numDigits_eq u hu1 hu64;split at this <;> omega
  have hal:Tryz.prog.arrayLen 182=24:=by kernel_rfl
  have hsl1:∀ W,(Instr.sliceAt 182 (.pointer (some ⟨w.heap.size,0,none⟩)) none (some (.int .i64 (Lib.nDigits u:Int))) none).run Tryz.prog W=.ok (.slice (some ⟨w.heap.size,0,none⟩) (Lib.nDigits u) 24) W:=fun W=>by
   rw [run_sliceAt_array_h W 182 ⟨w.heap.size,0,none⟩ (by kernel_rfl) .i64 (Lib.nDigits u:Int) (by omega) (by rw [hal];omega)]
   go_simp
  have hH0:=Lib.holds_zero0 w 182 (Lib.nDigits u) (by omega)
  have hfmt:=Tryz.internal_strconv_formatBase10 w.heap.size 0 24 u (Array.replicate (Lib.nDigits u) 0) (w.alloc (.cells Lib.zeros24 182)) hH0 (by rw [Array.size_replicate];exact Lib.lt_pow_nDigits u) hu64 (by rw [Array.size_replicate];omega)
  rw [Array.size_replicate] at hfmt
  have HH0:=hide_ hH0
  have HT:=hide_ hT
  have HF:=hide_ hfmt
  clear hH0 hal hT hfmt
  go_enter Tryz.func106,Tryz.ntmps106
  go_wp2_with fail
  refine (Tryz.internal_strconv_numDigits u hu1 hu64 _ (Lib.tabIs_alloc HT.out _)).mono ?_
  rintro e w' ⟨rfl,rfl⟩
  go_wp2_with fail
  refine HF.out.mono ?_
  rintro e w' ⟨rfl,k,v',dk,rfl,hF⟩
  have hcv:(convert 24 9 (.slice (some ⟨w.heap.size,0,none⟩) (Lib.nDigits u) 24)).run Tryz.prog ((putRow (fun (b:UInt8)=>Value.int .u8 (b.toNat:Int)) (w.alloc (.cells Lib.zeros24 182)) w.heap.size 0 dk).drewN k)=.ok (.string ⟨(Lib.decDigits u).toArray⟩) ((putRow (fun (b:UInt8)=>Value.int .u8 (b.toNat:Int)) (w.alloc (.cells Lib.zeros24 182)) w.heap.size 0 dk).drewN k):=by
   have h:=run_convert_bytes_back (P:=Tryz.prog) ((putRow (fun (b:UInt8)=>Value.int .u8 (b.toNat:Int)) (w.alloc (.cells Lib.zeros24 182)) w.heap.size 0 dk).drewN k) 24 9 5 ⟨w.heap.size,0,none⟩ 24 (Lib.decDigits u) Tryz.underlying24 Tryz.underlying5 Tryz.underlying9 (fun j hj=>by
    rw [Lib.row_is_numeral hF j hj,Lib.add_plain,World.cell?_drewN]
    exact cell?_putRow (fun (b:UInt8)=>Value.int .u8 (b.toNat:Int)) _ w.heap.size 0 _ dk HH0.out (by rw [hF.size,Array.size_replicate]) j (by rw [hF.size];rw [Lib.decDigits_length] at hj;exact hj))
   rw [Lib.decDigits_length] at h
   exact h
  have HFIN:=hide_ (Lib.fin_at w (.cells Lib.zeros24 182) dk k 0)
  clear hF
  go_wp2
  go_ret
  obtain ⟨os,eo⟩:=HFIN.out
  exact ⟨rfl,by rw [eo];exact Lib.below_grow w.heap.size w (Nat.le_refl _) k os⟩
theorem Uint_any (u:Nat) (hu64:u<18446744073709551616) (w:World) (hT:TabOk w) :
  Calls Tryz.prog 75 #[.int .u64 u,.int .i64 10] w fun e w'=>e=.returned (.string (decT u))∧Below w.heap.size w w':=by
 have HU:=hide_ (inUint_any u hu64 w hT)
 clear hT
 go_enter Tryz.func75,Tryz.ntmps75
 go_wp2_with fail
 refine HU.out.mono ?_
 rintro e w1 ⟨rfl,hb⟩
 have HB:=hide_ hb
 clear hb
 go_wp2
 go_ret
 exact ⟨rfl,HB.out⟩
theorem decT_big {n:Nat} (h:¬ n<10):decT n=decT (n / 10) ++ ⟨#[UInt8.ofNat (48+n % 10)]⟩:=by
 unfold decT
 rw [Lib.decDigits,dif_neg h]
 apply ByteArray.ext
 simp
theorem decT_size (n:Nat) (h:n<18446744073709551616):(decT n).size≤20:=by
 unfold decT
 rw [show (⟨(Lib.decDigits n).toArray⟩:ByteArray).size=(Lib.decDigits n).length from by simp [ByteArray.size],Lib.decDigits_length]
 by_cases h0:n=0
 ·subst h0;rw [Lib.nDigits_small (by omega)];omega
 ·have:=Lib.numDigits_eq n (by omega) h;split at this <;> omega
end Go.Proofs.YtikbegmodacopaaGreatDoor
