/-
  Joined and packed by program.
-/
import Derived.Test.YtikbegmodacopaaGreatDoorQ15
namespace Go.Proofs.YtikbegmodacopaaGreatDoor
open Go.RowKit Go.PlainAid Go.BigFrame
set_option linter.unusedSimpArgs false
set_option linter.unusedVariables false
set_option maxRecDepth 100000
theorem whole_any (x:ImgV) (s:ImgS) (w:World) (hx:ImgOk x):Calls Tryz.prog 78 #[.agg (imgV x s)] w fun e w'=>e=.returned (.int .u64 (roomOf x))∧Below w.heap.size w w':=by
 obtain ⟨l1,l2,l3,l4⟩:=hx.lens
 obtain ⟨z0,z1⟩:=hx.zero
 obtain ⟨k0,k1⟩:=hx.stack
 have HR:=hide_ (show roomOf x=x.data.length+x.zero+x.stack from rfl)
 unfold imgV
 obtain ⟨m,hm⟩:∃ m,m=roomOf x:=⟨_,rfl⟩
 rw [← hm] at HR ⊢
 clear hm
 go_enter Tryz.func78,Tryz.ntmps78
 go_wp2
 go_ret
 exact ⟨by rw [HR.out];rfl,(Below.refl _ _).alloc (Nat.le_refl _) _⟩
def nmsR (l:List ExpV):Bool:=decide (l.length≤64) && nmsB l
theorem nmsR_many {l:List ExpV} (h:64<l.length):nmsR l=false:=by unfold nmsR;rw [decide_eq_false (by omega)];rfl
theorem nmsR_some {l:List ExpV} (h:¬ 64<l.length):nmsR l=nmsB l:=by unfold nmsR;rw [decide_eq_true (by omega)];rfl
set_option maxHeartbeats 2000000 in
theorem rnames_any (l:List ExpV) (A:Option Addr) (c:Nat) (w:World) (hr:Reads w w.heap.size 2 A l.length (l.flatMap xE)) (hl:l.length≤140737488351232) (hs:∀ t ∈ l,t.name.size≤140737488351232) :
  Calls Tryz.prog 79 #[.slice A l.length c] w fun e w'=>e=.returned (.bool (nmsR l))∧w'=w:=by
 obtain ⟨n,hn⟩:∃ n,n=l.length:=⟨_,rfl⟩
 have HR:=hide_ hr
 have HS:=hide_ hs
 rw [← hn] at HR hl ⊢
 have HN:=hide_ hn
 clear hr hn hs
 by_cases h64:64<n
 ·have g:(64:Int)<(n:Int):=by omega
  have E:=hide_ (nmsR_many (l:=l) (by rw [← HN.out];exact h64))
  go_enter Tryz.func79,Tryz.ntmps79
  go_wp2
  go_ret
  exact ⟨by rw [E.out];rfl,rfl⟩
 ·have g:¬ (64:Int)<(n:Int):=by omega
  have E:=hide_ (nmsR_some (l:=l) (by rw [← HN.out];exact h64))
  clear h64
  go_enter Tryz.func79,Tryz.ntmps79
  go_wp2
  go_loop [3] (fun i=>∃ k:Nat,k≤n∧i=.int .i64 k∧Hid (∀ t,t<k→nmOk l t=true)) (fun i=>n - (intOf i).toNat)
  case atStart=>exact ⟨0,Nat.zero_le _,rfl,hide_ (fun t ht=>absurd ht (by omega))⟩
  case round =>
   obtain ⟨k,hk,rfl,HA⟩:=hrel
   by_cases hlt:k<n
   ·obtain ⟨t,ht⟩:∃ t,l[k]?=some t:=⟨_,List.getElem?_eq_getElem (by rw [← HN.out];exact hlt)⟩
    have hsz:=HS.out t (List.mem_of_getElem? ht)
    obtain ⟨_,ad,rfl,_,p0,_⟩:=el_cells xE_len HR.out (by omega) ht
    have q0:=p0 _ rfl
    have NO:=hide_ (fun (h:nmOk l k=false)=>show nmsR l=false by rw [E.out,nmsB_no (by rw [← HN.out];exact hlt) h])
    have YES:=hide_ (fun (h:nmOk l k=true)=>show ∀ t,t<k+1→nmOk l t=true from fun t ht=>by
     by_cases e:t=k
     ·rw [e];exact h
     ·exact HA.out t (by omega))
    obtain ⟨b,hb⟩:∃ b,b=nmOk l k:=⟨_,rfl⟩
    rw [← hb] at NO YES
    cases k with
    | zero =>
     have HO:=nmOk_0 ht
     rw [← hb] at HO
     obtain ⟨nm,at_⟩:=t
     dsimp only at q0 hsz HO
     clear p0 ht hb HA
     rw [Nat.zero_mul] at q0
     have q1:w.cell? ad=some (.string nm):=by simpa [Addr.add] using q0
     have z0:decide ((0:Int)<((0:Nat):Int))=false:=rfl
     have hways:(nm.size<1∧b=false)∨(1≤nm.size∧32<nm.size∧b=false)∨(1≤nm.size∧nm.size≤32∧b=true):=by
      by_cases a1:1≤nm.size
      ·by_cases a2:nm.size≤32
       ·exact .inr (.inr ⟨a1,a2,by rw [HO];simp [a1,a2]⟩)
       ·exact .inr (.inl ⟨a1,by omega,by rw [HO];simp [a1,a2]⟩)
      ·exact .inl ⟨by omega,by rw [HO];simp [a1]⟩
     clear HO
     rcases hways with ⟨a1,rfl⟩ | ⟨a1,a2,rfl⟩ | ⟨a1,a2,rfl⟩
     ·have c1:(nm.size:Int)<1:=by omega
      have F:=hide_ (NO.out rfl)
      go_wp2
      go_ret
      exact ⟨by rw [F.out];rfl,rfl⟩
     ·have c1:¬ (nm.size:Int)<1:=by omega
      have c2:(32:Int)<(nm.size:Int):=by omega
      have F:=hide_ (NO.out rfl)
      go_wp2
      go_ret
      exact ⟨by rw [F.out];rfl,rfl⟩
     ·have c1:¬ (nm.size:Int)<1:=by omega
      have c2:¬ (32:Int)<(nm.size:Int):=by omega
      have F:=hide_ (YES.out rfl)
      go_wp2
      go_round
      case rel=>exact ⟨0+1,by omega,by go_num,F⟩
      case measure=>simp [intOf] <;> omega
    | succ m =>
     obtain ⟨p,hp⟩:∃ p,l[m]?=some p:=⟨_,List.getElem?_eq_getElem (by rw [← HN.out];omega)⟩
     obtain ⟨_,ad',e,_,p0',_⟩:=el_cells xE_len HR.out (by omega) hp
     injection e with e
     subst e
     have q1:=p0' _ rfl
     have HO:=nmOk_s ht hp
     rw [← hb] at HO
     obtain ⟨nm,at_⟩:=t
     obtain ⟨pm,pa⟩:=p
     dsimp only at q0 q1 hsz HO
     clear p0 p0' ht hb HA hp
     have z0:decide ((0:Int)<(m:Int)+1)=true:=decide_eq_true (by omega)
     have hways:(nm.size<1∧b=false)∨(1≤nm.size∧32<nm.size∧b=false)∨(1≤nm.size∧nm.size≤32∧(Op.bytesLess nm.toList pm.toList || nm.toList == pm.toList)=true∧b=false)∨(1≤nm.size∧nm.size≤32∧(Op.bytesLess nm.toList pm.toList || nm.toList == pm.toList)=false∧b=true):=by
      unfold bGt at HO
      by_cases a1:1≤nm.size
      ·by_cases a2:nm.size≤32
       ·cases h1:(Op.bytesLess nm.toList pm.toList || nm.toList == pm.toList)
        ·exact .inr (.inr (.inr ⟨a1,a2,rfl,by rw [HO,← Bool.not_or,h1];simp [a1,a2]⟩))
        ·exact .inr (.inr (.inl ⟨a1,a2,rfl,by rw [HO,← Bool.not_or,h1];simp⟩))
       ·exact .inr (.inl ⟨a1,by omega,by rw [HO];simp [a1,a2]⟩)
      ·exact .inl ⟨by omega,by rw [HO];simp [a1]⟩
     clear HO
     rcases hways with ⟨a1,rfl⟩ | ⟨a1,a2,rfl⟩ | ⟨a1,a2,a3,rfl⟩ | ⟨a1,a2,a3,rfl⟩
     ·have c1:(nm.size:Int)<1:=by omega
      have F:=hide_ (NO.out rfl)
      go_wp2
      go_ret
      exact ⟨by rw [F.out];rfl,rfl⟩
     ·have c1:¬ (nm.size:Int)<1:=by omega
      have c2:(32:Int)<(nm.size:Int):=by omega
      have F:=hide_ (NO.out rfl)
      go_wp2
      go_ret
      exact ⟨by rw [F.out];rfl,rfl⟩
     ·have c1:¬ (nm.size:Int)<1:=by omega
      have c2:¬ (32:Int)<(nm.size:Int):=by omega
      have F:=hide_ (NO.out rfl)
      go_wp2
      go_ret
      exact ⟨by rw [F.out];rfl,rfl⟩
     ·have c1:¬ (nm.size:Int)<1:=by omega
      have c2:¬ (32:Int)<(nm.size:Int):=by omega
      have F:=hide_ (YES.out rfl)
      go_wp2
      go_round
      case rel=>exact ⟨m+1+1,by omega,by go_num,F⟩
      case measure=>simp [intOf] <;> omega
   ·have hend:k=n:=by omega
    have F:=hide_ (show nmsR l=true by rw [E.out];exact nmsB_all fun t ht=>HA.out t (by rw [hend,HN.out];exact ht))
    clear hend
    go_wp2
    go_ret
    exact ⟨by rw [F.out];rfl,rfl⟩
set_option maxHeartbeats 4000000 in
theorem rChkI_any (x:ImgV) (s:ImgS) (w:World) (hx:ImgOk x) (hr:ImgR w w.heap.size x s):Calls Tryz.prog 42 #[.agg (imgV x s)] w fun e w'=>e=.returned (.int .i64 (imgChk x))∧Below w.heap.size w w':=by
 obtain ⟨l1,l2,l3,l4⟩:=hx.lens
 obtain ⟨k0,k1⟩:=hx.stack
 have HC:=hide_ hr.rc
 have HCO:=hide_ hx.code
 have HNR:=hide_ hr.rn
 have HNS:=hide_ (fun t ht=>(hx.names t ht).1)
 have HWH:=hide_ (fun W=>whole_any x s W hx)
 obtain ⟨W1,hW1⟩:∃ W,W=w.alloc (.cells (imgV x s) 28):=⟨_,rfl⟩
 have HB1:=hide_ (show Below w.heap.size w W1 by rw [hW1];exact (Below.refl _ _).alloc (Nat.le_refl _) _)
 have HK1:=hide_ (show Blk W1 w.heap.size 28 (imgV x s) by rw [hW1];exact Blk.new w _ _)
 have hlt0:w.heap.size<W1.heap.size:=by rw [hW1];simp
 have HAT:=hide_ (fun W (hb:Below W1.heap.size W1 W)=>img_cells (HK1.out.below hb hlt0))
 have FIN:=hide_ (fun W (hb:Below W1.heap.size W1 W)=>show Below w.heap.size w W from HB1.out.trans (hb.mono (by omega)))
 have HRC:=hide_ (fun W (hb:Below W1.heap.size W1 W)=>HC.out.below (FIN.out W hb))
 have HRN:=hide_ (fun W (hb:Below W1.heap.size W1 W)=>(HNR.out.below (FIN.out W hb)).more (by have:=hb.size;omega:w.heap.size≤W.heap.size))
 clear HC HNR hr hx HK1 HB1
 unfold imgV at hW1 HWH ⊢
 obtain ⟨⟨cA,cc⟩,⟨jA,jc⟩,⟨dA,dc⟩,⟨nA,nc⟩⟩:=s
 dsimp only at hW1 HAT HRC HRN HWH ⊢
 go_enter Tryz.func42,Tryz.ntmps42
 go_upto_region 1 with (fail)
 rw [← hW1]
 clear hW1
 have HBW:=hide_ (Below.refl W1.heap.size W1)
 obtain ⟨f0,f1,f2,f3,f4,f5⟩:=HAT.out W1 HBW.out
 by_cases n1:16384<x.code.length
 ·have g1':(16384:Int)<(x.code.length:Int):=by omega
  have E:=hide_ (ic_73 n1)
  go_wp2
  go_ret
  exact ⟨by rw [E.out];rfl,FIN.out _ HBW.out⟩
 ·have g1:¬ (16384:Int)<(x.code.length:Int):=by omega
  have N1:=hide_ n1
  clear n1
  go_wp2_with fail
  clear f0 f1 f2 f3 f4 f5
  go_loopw [3] (fun i wr=>∃ k:Nat,k≤x.code.length∧i=.int .i64 k∧Hid (Below W1.heap.size W1 wr)∧Hid (codChk x.code=codChk (x.code.drop k))) (fun i _=>x.code.length - (intOf i).toNat)
  case atStart=>exact ⟨0,Nat.zero_le _,rfl,HBW,hide_ rfl⟩
  case round =>
   clear HBW
   obtain ⟨k,hk,rfl,HB,HK⟩:=hrel
   obtain ⟨f0,f1,f2,f3,f4,f5⟩:=HAT.out wr HB.out
   by_cases hlt:k<x.code.length
   ·obtain ⟨t,ht⟩:∃ t,x.code[k]?=some t:=⟨_,List.getElem?_eq_getElem hlt⟩
    have STEP:=hide_ (HK.out.trans (codChk_at ht))
    obtain ⟨⟨o0,o1⟩,a0,a1⟩:=HCO.out t (List.mem_of_getElem? ht)
    obtain ⟨_,ad,rfl,hbk,p0,p1⟩:=el_cells cE_len (HRC.out _ HB.out) (by omega) ht
    have q0:=p0 _ rfl
    have q1:=p1 1 _ (by omega) rfl
    obtain ⟨op,arg⟩:=t
    dsimp only at q0 q1 STEP o0 o1
    have HCK:=hide_ (fun W=>rCheck_any op arg o0 o1 W)
    obtain ⟨v,hv⟩:∃ v,v=opChk op arg:=⟨_,rfl⟩
    rw [← hv] at HCK STEP
    clear hv p0 p1 ht
    go_wp2_with fail
    refine (HCK.out _).mono ?_
    rintro e w2 ⟨rfl,hb2⟩
    have HB2:=hide_ (show Below W1.heap.size W1 w2 from HB.out.trans (hb2.mono HB.out.size))
    clear hb2 q0 q1 f0 f1 f2 f3 f4 f5
    by_cases hv:v=0
    ·subst hv
     have STEP2:=hide_ (STEP.out.trans (if_pos rfl))
     go_wp2
     go_roundw
     case rel=>exact ⟨k+1,by omega,by go_num,HB2,STEP2⟩
     case measure=>simp [intOf] <;> omega
    ·have hv2:(v != 0)=true:=by simpa using hv
     have E:=hide_ (show imgChk x=v by
      have e:codChk x.code=v:=STEP.out.trans (if_neg hv)
      rw [ic_code N1.out (by rw [e];exact hv),e])
     go_wp2
     go_ret
     exact ⟨by rw [E.out];rfl,FIN.out _ HB2.out⟩
   ·have hend:k=x.code.length:=by omega
    have H0:=hide_ (show codChk x.code=0 by rw [HK.out,hend,List.drop_length];rfl)
    clear hend
    by_cases n2:16384<x.jumps.length
    ·have g2:(16384:Int)<(x.jumps.length:Int):=by omega
     have E:=hide_ (ic_86 N1.out H0.out n2)
     go_wp2
     go_ret
     exact ⟨by rw [E.out];rfl,FIN.out _ HB.out⟩
    ·have g2:¬ (16384:Int)<(x.jumps.length:Int):=by omega
     have N2:=hide_ n2
     clear n2
     have HSM:=hide_ (fun W=>stacks_any x.stack W k0 k1)
     have HNM:=hide_ (fun W hb=>rnames_any x.names nA nc W (HRN.out W hb) l4 HNS.out)
     obtain ⟨b,hb⟩:∃ b,b=stkB x.stack:=⟨_,rfl⟩
     obtain ⟨m,hm⟩:∃ m,m=roomOf x:=⟨_,rfl⟩
     obtain ⟨q,hq⟩:∃ q,q=nmsR x.names:=⟨_,rfl⟩
     rw [← hb] at HSM
     rw [← hm] at HWH
     rw [← hq] at HNM
     have HBM:=hide_ (And.intro hb (And.intro hm hq))
     clear hb hm hq
     by_cases hb:b=true
     ·subst hb
      have MORE:=hide_ (fun w3 (h:Below wr.heap.size wr w3)=>show Below W1.heap.size W1 w3 from HB.out.trans (h.mono HB.out.size))
      by_cases n3:65536<m
      ·have E:=hide_ (ic_85 N1.out H0.out N2.out (.inr (by rw [← HBM.out.2.1];exact n3)))
       go_wp2_with (first | (go_at_call 77;refine (HSM.out _).mono ?_;rintro e w3 ⟨rfl,rfl⟩))
       refine (HWH.out _).mono ?_
       rintro e w3 ⟨rfl,hb3⟩
       have HB3:=hide_ (MORE.out _ hb3)
       clear hb3 f0 f1 f2 f3 f4 f5
       go_wp2
       go_ret
       exact ⟨by rw [E.out];rfl,FIN.out _ HB3.out⟩
      ·have N3:=hide_ (And.intro HBM.out.1.symm (show ¬ 65536<roomOf x by rw [← HBM.out.2.1];exact n3))
       go_wp2_with (first | (go_at_call 77;refine (HSM.out _).mono ?_;rintro e w3 ⟨rfl,rfl⟩))
       refine (HWH.out _).mono ?_
       rintro e w3 ⟨rfl,hb3⟩
       have HB3:=hide_ (MORE.out _ hb3)
       clear hb3 f0 f1 f2 f3 f4 f5
       obtain ⟨f0,f1,f2,f3,f4,f5⟩:=HAT.out _ HB3.out
       cases q with
       | false =>
        have E:=hide_ (ic_87 N1.out H0.out N2.out N3.out.1 (by have:=N3.out.2;omega) (by
         have h:=HBM.out.2.2.symm
         unfold nmsR at h
         rcases Bool.and_eq_false_iff.1 h with h | h
         ·exact .inl (by have:=of_decide_eq_false h;omega)
         ·exact .inr h))
        go_wp2_with fail
        refine (HNM.out _ HB3.out).mono ?_
        rintro e w4 ⟨rfl,rfl⟩
        go_wp2
        go_ret
        exact ⟨by rw [E.out];rfl,FIN.out _ HB3.out⟩
       | true =>
        have E:=hide_ (show imgChk x=0 by
         have h:=HBM.out.2.2.symm
         unfold nmsR at h
         rw [Bool.and_eq_true] at h
         exact ic_0 N1.out H0.out N2.out N3.out.1 (by have:=N3.out.2;omega) (by have:=of_decide_eq_true h.1;omega) h.2)
        go_wp2_with fail
        refine (HNM.out _ HB3.out).mono ?_
        rintro e w4 ⟨rfl,rfl⟩
        go_wp2
        go_ret
        exact ⟨by rw [E.out];rfl,FIN.out _ HB3.out⟩
     ·have hb0:b=false:=by simpa using hb
      subst hb0
      have E:=hide_ (ic_85 N1.out H0.out N2.out (.inl HBM.out.1.symm))
      go_wp2_with (first | (go_at_call 77;refine (HSM.out _).mono ?_;rintro e w3 ⟨rfl,rfl⟩))
      go_ret
      exact ⟨by rw [E.out];rfl,FIN.out _ HB.out⟩
end Go.Proofs.YtikbegmodacopaaGreatDoor
