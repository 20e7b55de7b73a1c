/-
  Joined and packed by program.
-/
import Derived.Test.YtikbegmodacopaaGreatDoorQ20
import Derived.Test.YtikbegmodacopaaGreatDoorQ21
import Derived.Test.YtikbegmodacopaaGreatDoorQ22
import Derived.Test.YtikbegmodacopaaGreatDoorQ23
namespace Go.Proofs.YtikbegmodacopaaGreatDoor
open Go.RowKit Go.PlainAid Go.BigFrame
set_option linter.unusedSimpArgs false
set_option linter.unusedVariables false
set_option maxRecDepth 100000
def hx (d:Nat):Nat:=if d<10 then 48+d else 87+d
def hxT (d:Nat):ByteArray:=textOf [hx d]
theorem hxT_size (d:Nat):(hxT d).size=1:=rfl
def dgW (b least:Nat):Nat→Nat→ByteArray→ByteArray
 | 0,_,s=>s
 | f+1,y,s=>if 0<y∨s.size<least then dgW b least f (y / b) (hxT (y % b) ++ s) else s
def e0C:ByteArray:=⟨#[]⟩
def hexC:ByteArray:=⟨#[48,49,50,51,52,53,54,55,56,57,97,98,99,100,101,102]⟩
theorem hexC_get:∀ d,d<16→∃ h:d<hexC.size,(hexC[d]'h).toNat=hx d:=by
 intro d hd
 have h:∀ d:Fin 16,((hexC.get! d.1).toNat=hx d.1):=by decide +kernel
 have hs:d<hexC.size:=hd
 refine ⟨hs,?_⟩
 have:=h ⟨d,hd⟩
 rw [get!_eq hexC d hs] at this
 exact this
theorem hx_conv (d:Nat) (W:World):(convert 24 9 (.slice (some ⟨W.heap.size,0,none⟩) 1 1)).run Tryz.prog (W.alloc (.cells #[.int .u8 (hx d:Nat)] 5))=.ok (.string (hxT d)) (W.alloc (.cells #[.int .u8 (hx d:Nat)] 5)):=conv_new W [hx d] 1
set_option maxHeartbeats 2000000 in
theorem rdigits_any (b least x:Nat) (bz lz:Int) (hb:(b=10∧bz=10)∨(b=16∧bz=16)) (hlz:lz=(least:Int)) (hx0:x<4294967296) (hl:least≤8) (w:World) :
  Calls Tryz.prog 80 #[.int .i64 x,.int .i64 bz,.int .i64 lz] w fun e w'=>e=.returned (.string (dgW b least (x+least) x e0C))∧Below w.heap.size w w':=by
 subst hlz
 obtain ⟨D,hD⟩:∃ D,D=dgW b least:=⟨_,rfl⟩
 have GO:=hide_ (fun f y S (h:0<y∨S.size<least)=>show D (f+1) y S=D f (y / b) (hxT (y % b) ++ S) by rw [hD,dgW,if_pos h])
 have STOP:=hide_ (fun f y S (h:¬ (0<y∨S.size<least))=>show D f y S=S by
  rw [hD]
  cases f with
  | zero=>rfl
  | succ f=>rw [dgW,if_neg h])
 rw [← hD]
 clear hD
 have hdg:=hide_ hexC_get
 rcases hb with ⟨rfl,rfl⟩ | ⟨rfl,rfl⟩
 all_goals
  go_enter Tryz.func80,Tryz.ntmps80
  go_wp2
  go_loopg [0,7] (x+least+1) (fun kx a s wr=>∃ (f y:Nat) (S:ByteArray),a=.int .i64 y∧s=.string S∧y≤x∧y+(least - S.size)≤f∧f≤kx∧Hid (S.size+f=x+least)∧Hid (D f y S=D (x+least) x e0C)∧Hid (Below w.heap.size w wr))
  case atStart=>exact ⟨x+least,x,e0C,rfl,rfl,Nat.le_refl _,by omega,by omega,hide_ (by show 0+_=_;omega),hide_ rfl,hide_ (Below.refl _ _)⟩
  case round =>
   obtain ⟨f,y,S,rfl,rfl,hy,hf,hfk,HF,HD,HB⟩:=hrel
   have hsz:S.size≤x+least:=by have:=HF.out;omega
   by_cases hc:0<y∨S.size<least
   ·obtain ⟨f,rfl⟩:∃ g,f=g+1:=⟨f - 1,by omega⟩
    have NEXT:=hide_ ((GO.out f y S hc).symm.trans HD.out)
    have NF:=hide_ (fun (d:Nat)=>show (hxT d ++ S).size+f=x+least by
     have:=HF.out
     rw [ByteArray.size_append,hxT_size]
     omega)
    have NG:=hide_ (fun (d:Nat)=>show (hxT d ++ S).size=1+S.size by rw [ByteArray.size_append,hxT_size])
    first
     | (obtain ⟨d,hd⟩:∃ d,d=y % 10:=⟨_,rfl⟩
        obtain ⟨q,hq⟩:∃ q,q=y / 10:=⟨_,rfl⟩
        rw [← hd,← hq] at NEXT
        have hd16:d<16:=by omega
        have hqy:q≤y:=by omega
        have hqz:0<y→q<y:=by omega
        have t1:(y:Int).tmod 10=(d:Int):=by rw [Int.tmod_eq_emod_of_nonneg (by omega)];omega
        have t2:(y:Int).tdiv 10=(q:Int):=by rw [Int.tdiv_eq_ediv_of_nonneg (by omega)];omega
        have t3:(y:Int) % 10=(d:Int):=by omega
        have t4:(y:Int) / 10=(q:Int):=by omega
        clear hd hq)
     | (obtain ⟨d,hd⟩:∃ d,d=y % 16:=⟨_,rfl⟩
        obtain ⟨q,hq⟩:∃ q,q=y / 16:=⟨_,rfl⟩
        rw [← hd,← hq] at NEXT
        have hd16:d<16:=by omega
        have hqy:q≤y:=by omega
        have hqz:0<y→q<y:=by omega
        have t1:(y:Int).tmod 16=(d:Int):=by rw [Int.tmod_eq_emod_of_nonneg (by omega)];omega
        have t2:(y:Int).tdiv 16=(q:Int):=by rw [Int.tdiv_eq_ediv_of_nonneg (by omega)];omega
        have t3:(y:Int) % 16=(d:Int):=by omega
        have t4:(y:Int) / 16=(q:Int):=by omega
        clear hd hq)
    obtain ⟨hs,hg⟩:=hdg.out d hd16
    unfold hexC at hs hg
    have hcv:=hx_conv d wr
    have hmf:q+(least - (1+S.size))≤f:=by omega
    obtain ⟨v,hv⟩:∃ v,v=hx d:=⟨_,rfl⟩
    rw [← hv] at hg hcv
    obtain ⟨dt,hdt⟩:∃ v,v=hxT d:=⟨_,rfl⟩
    have hdz:dt.size=1:=by rw [hdt];rfl
    have h63:¬ (9223372036854775807:Int)<(dt.size:Int)+(S.size:Int):=by rw [hdz];omega
    have h64:¬ 9223372036854775807<dt.size+S.size:=by rw [hdz];omega
    have NF:=hide_ (NF.out d)
    have NG:=hide_ (NG.out d)
    rw [← hdt] at hcv NEXT NF NG
    clear hdz hdt hv hqz
    have hdi:(d:Int)<16:=by omega
    have hd0:0≤(d:Int):=by omega
    by_cases y0:0<y
    ·have c0:decide ((0:Int)<(y:Int))=true:=decide_eq_true (by omega)
     have c1:decide (0<y)=true:=decide_eq_true y0
     go_wp2
     go_roundg f
     case measure=>omega
     case rel=>exact ⟨f,q,dt ++ S,rfl,rfl,by omega,by rw [NG.out];exact hmf,Nat.le_refl _,NF,NEXT,hide_ (HB.out.alloc HB.out.size _)⟩
    ·have c0:decide ((0:Int)<(y:Int))=false:=decide_eq_false (by omega)
     have c1:decide (0<y)=false:=decide_eq_false y0
     have c2:decide ((S.size:Int)<(least:Int))=true:=decide_eq_true (by omega)
     have c3:decide (S.size<least)=true:=decide_eq_true (by omega)
     go_wp2
     go_roundg f
     case measure=>omega
     case rel=>exact ⟨f,q,dt ++ S,rfl,rfl,by omega,by rw [NG.out];exact hmf,Nat.le_refl _,NF,NEXT,hide_ (HB.out.alloc HB.out.size _)⟩
   ·have y0:y=0:=by omega
    have E:=hide_ ((STOP.out f y S hc).symm.trans HD.out)
    subst y0
    have c1:decide ((S.size:Int)<(least:Int))=false:=decide_eq_false (by omega)
    have c2:decide (S.size<least)=false:=decide_eq_false (by omega)
    go_wp2
    go_ret
    exact ⟨by rw [← E.out];rfl,HB.out⟩
theorem hxT_lt {d:Nat} (h:d<10):hxT d=⟨#[UInt8.ofNat (48+d)]⟩:=by unfold hxT hx;rw [if_pos h];exact digB_text d
theorem dgW_dec:∀ (f y:Nat) (S:ByteArray),y≤f→1≤S.size→dgW 10 1 f y S=if y=0 then S else decT y ++ S
 | 0,y,S,h,_=>by rw [if_pos (by omega)];rfl
 | f+1,y,S,h,hs=>by
  rw [dgW]
  by_cases h0:y=0
  ·rw [if_pos h0,if_neg (by omega)]
  ·rw [if_neg h0,if_pos (by omega),dgW_dec f (y / 10) _ (by omega) (by rw [ByteArray.size_append];omega)]
   by_cases h1:y<10
   ·rw [if_pos (by omega),decT_small h1,Nat.mod_eq_of_lt h1,hxT_lt h1]
   ·rw [if_neg (by omega),decT_big h1,hxT_lt (by omega)]
    apply ByteArray.ext
    simp only [ByteArray.data_append,Array.append_assoc]
theorem dgW_name (x:Nat):dgW 10 1 (x+1) x e0C=decT x:=by
 rw [dgW,if_pos (by right;exact Nat.zero_lt_one),dgW_dec x (x / 10) _ (by omega) (by rw [ByteArray.size_append,hxT_size];omega)]
 by_cases h1:x<10
 ·rw [if_pos (by omega),decT_small h1,Nat.mod_eq_of_lt h1,hxT_lt h1]
  rfl
 ·rw [if_neg (by omega),decT_big h1,hxT_lt (by omega)]
  rfl
theorem rname_any (p:Int) (h0:0≤p) (h1:p<4294967296) (w:World):Calls Tryz.prog 45 #[.int .u32 p] w fun e w'=>e=.returned (.string (natS p))∧Below w.heap.size w w':=by
 have HD:=hide_ (rdigits_any 10 1 p.toNat 10 1 (.inl ⟨rfl,rfl⟩) rfl (by omega) (by omega) w)
 rw [dgW_name,show ((p.toNat:Nat):Int)=p by omega] at HD
 have SZ:=natS_size p h1
 have NS:=hide_ (show ⟨#[97,116]⟩ ++ decT p.toNat=natS p from rfl)
 have h63:¬ (9223372036854775807:Int)<2+((decT p.toNat).size:Int):=by
  have:=decT_size p.toNat (by omega)
  omega
 have h64:¬ 9223372036854775807<2+(decT p.toNat).size:=by
  have:=decT_size p.toNat (by omega)
  omega
 obtain ⟨sx,hsx⟩:∃ s,s=decT p.toNat:=⟨_,rfl⟩
 rw [← hsx] at HD NS h63 h64
 clear hsx SZ
 go_enter Tryz.func45,Tryz.ntmps45
 go_wp2_with fail
 refine HD.out.mono ?_
 rintro e w1 ⟨rfl,hb⟩
 have HB:=hide_ hb
 clear hb
 go_wp2
 go_ret
 exact ⟨by rw [← NS.out];rfl,HB.out⟩
end Go.Proofs.YtikbegmodacopaaGreatDoor
namespace Go.Proofs.YtikbegmodacopaaGreatDoor
open Go.RowKit Go.PlainAid Go.BigFrame
set_option linter.unusedSimpArgs false
set_option linter.unusedVariables false
set_option maxRecDepth 100000
set_option maxHeartbeats 4000000 in
theorem rbeyond_any (x:ImgV) (s:ImgS) (w:World) (hx:ImgOk x) (hr:ImgR w w.heap.size x s) (hbd:x.code.length≤16384∧x.jumps.length≤16384∧x.names.length≤64):Calls Tryz.prog 43 #[.agg (imgV x s)] w fun e w'=>e=.returned (.bool (!begB x))∧Below w.heap.size w w':=by
 obtain ⟨l1,l2,l4⟩:=hbd
 have HOK:=hide_ hx
 have HR:=hide_ hr
 obtain ⟨W1,hW1⟩:∃ W,W=w.alloc (.cells (imgV x s) 28):=⟨_,rfl⟩
 have HB1:=hide_ (show Below w.heap.size w W1 by rw [hW1];exact (Below.refl _ _).alloc (Nat.le_refl _) _)
 have HK1:=hide_ (show Blk W1 w.heap.size 28 (imgV x s) by rw [hW1];exact Blk.new w _ _)
 have hlt0:w.heap.size<W1.heap.size:=by rw [hW1];simp
 have HAT:=hide_ (fun W (hb:Below W1.heap.size W1 W)=>img_cells (HK1.out.below hb hlt0))
 have FIN:=hide_ (fun W (hb:Below W1.heap.size W1 W)=>show Below w.heap.size w W from HB1.out.trans (hb.mono (by omega)))
 have HRJ:=hide_ (fun W (hb:Below W1.heap.size W1 W)=>HR.out.rj.below (FIN.out W hb))
 have HRN:=hide_ (fun W (hb:Below W1.heap.size W1 W)=>HR.out.rn.below (FIN.out W hb))
 have NO:=hide_ (fun (h:begB x=false)=>show (Value.bool (!begB x))=.bool true by rw [h];rfl)
 have YES:=hide_ (fun (h:begB x=true)=>show (Value.bool (!begB x))=.bool false by rw [h];rfl)
 clear HR HK1 HB1 hr hx
 unfold imgV at hW1 ⊢
 obtain ⟨⟨cA,cc⟩,⟨jA,jc⟩,⟨dA,dc⟩,⟨nA,nc⟩⟩:=s
 dsimp only at hW1 HAT HRJ HRN ⊢
 obtain ⟨nC,hnC⟩:∃ n,n=x.code.length:=⟨_,rfl⟩
 obtain ⟨nJ,hnJ⟩:∃ n,n=x.jumps.length:=⟨_,rfl⟩
 obtain ⟨nN,hnN⟩:∃ n,n=x.names.length:=⟨_,rfl⟩
 rw [← hnC] at l1 HAT hW1 ⊢
 rw [← hnJ] at l2 HAT HRJ hW1 ⊢
 rw [← hnN] at l4 HAT HRN hW1 ⊢
 have HN:=hide_ (And.intro hnC (And.intro hnJ hnN))
 clear hnC hnJ hnN
 go_enter Tryz.func43,Tryz.ntmps43
 go_upto_region 1 with (fail)
 rw [← hW1]
 clear hW1
 have HBW:=hide_ (Below.refl W1.heap.size W1)
 obtain ⟨f0,f1,f2,f3,f4,f5⟩:=HAT.out W1 HBW.out
 go_wp2_with fail
 clear f0 f1 f2 f3 f4 f5
 go_loopw [4] (fun i wr=>∃ k:Nat,k≤nJ∧i=.int .i64 k∧Hid (∀ t,t<k→jmpOk x t=true)∧Hid (Below W1.heap.size W1 wr)) (fun i _=>nJ - (intOf i).toNat)
 case atStart=>exact ⟨0,Nat.zero_le _,rfl,hide_ (fun t ht=>absurd ht (by omega)),HBW⟩
 case round =>
  clear HBW
  obtain ⟨k,hk,rfl,HJ,HB⟩:=hrel
  obtain ⟨f0,f1,f2,f3,f4,f5⟩:=HAT.out wr HB.out
  by_cases hlt:k<nJ
  ·obtain ⟨j,hj⟩:∃ j,x.jumps[k]?=some j:=⟨_,List.getElem?_eq_getElem (by have:=HN.out.2.1;omega)⟩
   obtain ⟨j0,j1⟩:=HOK.out.jumps j (List.mem_of_getElem? hj)
   obtain ⟨ad,rfl,hbk,hcell⟩:=(HRJ.out wr HB.out).2 (by omega)
   have q0:=hcell k _ (u32s_get hj)
   have ONE:=hide_ (fun (h:jmpOk x k=true)=>show ∀ t,t<k+1→jmpOk x t=true from fun t ht=>(by
    by_cases e:t=k
    ·rw [e];exact h
    ·exact HJ.out t (by omega)))
   have BAD:=hide_ (fun (h:jmpOk x k=false)=>NO.out (jmpsB_of (jmpsB_no (by have:=HN.out.2.1;omega) h)))
   have FB:=hide_ (fun m=>FIN.out (wr.drewN m) (srt_below m HB.out))
   cases k with
   | zero =>
    have HOK0:=jmpOk_0 hj
    rw [← HN.out.1] at HOK0
    have q1:wr.cell? ad=some (.int .u32 j):=by simpa [Addr.add] using q0
    have z0:decide ((0:Int)<((0:Nat):Int))=false:=rfl
    by_cases hjn:j≤nC
    ·have c1:decide ((nC:Int)<j)=false:=decide_eq_false (by omega)
     have F:=hide_ (ONE.out (by rw [HOK0];exact decide_eq_true hjn))
     clear HOK0 hcell hj
     go_wp2_with fail
     go_big_quiet (fail)
     go_wp2
     go_roundw
     case rel=>exact ⟨0+1,by omega,by go_num,F,hide_ (srt_below _ HB.out)⟩
     case measure=>simp [intOf] <;> omega
    ·have c1:decide ((nC:Int)<j)=true:=decide_eq_true (by omega)
     have F:=hide_ (BAD.out (by rw [HOK0];exact decide_eq_false hjn))
     clear HOK0 hcell hj
     go_wp2_with fail
     go_big_quiet (fail)
     go_wp2
     go_ret
     exact ⟨by rw [F.out];rfl,FB.out _⟩
   | succ m =>
    obtain ⟨p,hp⟩:∃ p,x.jumps[m]?=some p:=⟨_,List.getElem?_eq_getElem (by have:=HN.out.2.1;omega)⟩
    have q1:=hcell m _ (u32s_get hp)
    have q2:wr.cell? ⟨ad.block,ad.off+(m+1),none⟩=some (.int .u32 j):=by simpa [Addr.add] using q0
    have HOK0:=jmpOk_s hj hp
    rw [← HN.out.1] at HOK0
    have z0:decide ((0:Int)<(m:Int)+1)=true:=decide_eq_true (by omega)
    by_cases hjn:j≤nC
    ·have c1:decide ((nC:Int)<j)=false:=decide_eq_false (by omega)
     by_cases hpj:p<j
     ·have c2:decide (j≤p)=false:=decide_eq_false (by omega)
      have F:=hide_ (ONE.out (by rw [HOK0,decide_eq_true hjn,decide_eq_true hpj];rfl))
      clear HOK0 hcell hj hp
      go_wp2_with fail
      go_big_quiet (fail)
      go_wp2
      go_roundw
      case rel=>exact ⟨m+1+1,by omega,by go_num,F,hide_ (srt_below _ HB.out)⟩
      case measure=>simp [intOf] <;> omega
     ·have c2:decide (j≤p)=true:=decide_eq_true (by omega)
      have F:=hide_ (BAD.out (by rw [HOK0,decide_eq_false hpj,Bool.and_false]))
      clear HOK0 hcell hj hp
      go_wp2_with fail
      go_big_quiet (fail)
      go_wp2
      go_ret
      exact ⟨by rw [F.out];rfl,FB.out _⟩
    ·have c1:decide ((nC:Int)<j)=true:=decide_eq_true (by omega)
     have F:=hide_ (BAD.out (by rw [HOK0,decide_eq_false hjn];rfl))
     clear HOK0 hcell hj hp
     go_wp2_with fail
     go_big_quiet (fail)
     go_wp2
     go_ret
     exact ⟨by rw [F.out];rfl,FB.out _⟩
  ·obtain rfl:k=nJ:=by omega
   have JOK:=hide_ (show jmpsB x=true from jmpsB_all fun t ht=>HJ.out t (by rw [HN.out.2.1];exact ht))
   clear HJ
   go_wp2_with fail
   obtain ⟨wo,rfl⟩:∃ wo:World,wo=wr:=⟨_,rfl⟩
   go_loopw [5] (fun i wr=>∃ k:Nat,k≤nN∧i=.int .i64 k∧Hid (∀ t,t<k→∀ e,x.names[t]?=some e→e.at_≤x.code.length)∧Hid (Below W1.heap.size W1 wr)) (fun i _=>nN - (intOf i).toNat)
   case atStart=>exact ⟨0,Nat.zero_le _,rfl,hide_ (fun t ht=>absurd ht (by omega)),HB⟩
   case round =>
    clear HB f0 f1 f2 f3 f4 f5
    obtain ⟨k,hk,rfl,HA,HB⟩:=hrel
    obtain ⟨f0,f1,f2,f3,f4,f5⟩:=HAT.out wr HB.out
    by_cases hlt:k<nN
    ·obtain ⟨t,ht⟩:∃ t,x.names[k]?=some t:=⟨_,List.getElem?_eq_getElem (by have:=HN.out.2.2;omega)⟩
     obtain ⟨_,a0,a1⟩:=HOK.out.names t (List.mem_of_getElem? ht)
     obtain ⟨_,ad,rfl,hbk,p0,p1⟩:=el_cells xE_len (HRN.out wr HB.out) (by omega) ht
     have q0:=p0 _ rfl
     have q1:=p1 1 _ (by omega) rfl
     have ONE:=hide_ (fun (h:t.at_≤x.code.length)=>show ∀ r,r<k+1→∀ e,x.names[r]?=some e→e.at_≤x.code.length from fun r hr e he=>(by
      by_cases h2:r=k
      ·rw [h2,ht] at he;injection he with he;rw [← he];exact h
      ·exact HA.out r (by omega) e he))
     have BAD:=hide_ (fun (h:¬ t.at_≤x.code.length)=>NO.out (natB_of (natB_no ht h)))
     rw [← HN.out.1] at ONE BAD
     obtain ⟨nm,at_⟩:=t
     dsimp only at q0 q1 a0 a1 ONE BAD
     clear p0 p1 ht
     by_cases hjn:at_≤nC
     ·have c1:¬ (nC:Int)<at_:=by omega
      have F:=hide_ (ONE.out hjn)
      go_wp2
      go_roundw
      case rel=>exact ⟨k+1,by omega,by go_num,by rw [HN.out.1] at F;exact F,HB⟩
      case measure=>simp [intOf] <;> omega
     ·have c1:(nC:Int)<at_:=by omega
      have F:=hide_ (BAD.out hjn)
      go_wp2
      go_ret
      exact ⟨by rw [F.out];rfl,FIN.out _ HB.out⟩
    ·obtain rfl:k=nN:=by omega
     have F:=hide_ (YES.out (show begB x=true by
      unfold begB natB
      rw [JOK.out,Bool.true_and,List.all_eq_true]
      intro e he
      obtain ⟨r,hr⟩:=List.mem_iff_getElem?.1 he
      exact decide_eq_true (HA.out r (by have:=(List.getElem?_eq_some_iff.1 hr).1;have:=HN.out.2.2;omega) e hr)))
     go_wp2
     go_ret
     exact ⟨by rw [F.out];rfl,FIN.out _ HB.out⟩
set_option maxHeartbeats 4000000 in
theorem rstatic_any (x:ImgV) (s:ImgS) (k:Nat) (t:Int × Int) (w:World) (hx:ImgOk x) (hr:ImgR w w.heap.size x s) (ht:x.code[k]?=some t):Calls Tryz.prog 46 #[.agg (imgV x s),.int .i64 k] w fun e w'=>e=.returned (.tuple #[.int .u32 t.2,.bool (stB x.code.length t)])∧Below w.heap.size w w':=by
 have l1:=hx.lens.1
 obtain ⟨⟨o0,o1⟩,a0,a1⟩:=hx.code t (List.mem_of_getElem? ht)
 obtain ⟨W1,hW1⟩:∃ W,W=w.alloc (.cells (imgV x s) 28):=⟨_,rfl⟩
 have hB1:Below w.heap.size w W1:=by rw [hW1];exact (Below.refl _ _).alloc (Nat.le_refl _) _
 have hlt0:w.heap.size<W1.heap.size:=by rw [hW1];simp
 have hK1:Blk W1 w.heap.size 28 (imgV x s):=by rw [hW1];exact Blk.new w _ _
 obtain ⟨hkl,ad,hA,hbk,p0,p1⟩:=el_cells cE_len (hr.rc.below hB1) (by omega) ht
 have q0:=p0 _ rfl
 have q1:=p1 1 _ (by omega) rfl
 obtain ⟨f0,_,_,_,_,_⟩:=img_cells hK1
 rw [hA] at f0
 have HB1:=hide_ hB1
 obtain ⟨op,arg⟩:=t
 dsimp only at q0 q1 o0 o1 a0 a1 ⊢
 obtain ⟨r,hrr⟩:∃ r,r=opR op:=⟨_,rfl⟩
 obtain ⟨b,hb⟩:∃ b,b=opOk op:=⟨_,rfl⟩
 have HI:=hide_ (fun w=>rInfo_any op o0 o1 w)
 unfold opV at HI
 obtain ⟨n,hn⟩:∃ n,n=x.code.length:=⟨_,rfl⟩
 unfold stB
 dsimp only
 rw [← hrr,← hb] at HI
 rw [← hrr,← hn]
 rw [← hn] at f0 hkl l1
 have HBK:=hide_ (show (ad.add (k * 2)).block<W1.heap.size from by omega)
 unfold imgV at hW1 ⊢
 rw [hA,← hn] at hW1
 rw [hA,← hn]
 clear hrr hb hB1 hK1 p0 p1 ht hr hn hA hx
 unfold opCells at HI
 have hres:(decide (r.kind=3∨r.kind=2) && decide (arg≤n))=((((r.kind:Int) == 3) || ((r.kind:Int) == 2)) && decide (arg≤(n:Int))):=by
  congr 1
  rw [Bool.eq_iff_iff]
  simp
  omega
 rw [hres]
 clear hres
 obtain ⟨kd,hkd⟩:∃ k:Int,k=(r.kind:Int):=⟨_,rfl⟩
 rw [← hkd] at HI ⊢
 clear hkd
 have hways:kd=3∨((kd == 3)=false∧kd=2)∨((kd == 3)=false∧(kd == 2)=false):=by
  by_cases h3:kd=3
  ·exact .inl h3
  ·by_cases h2:kd=2
   ·exact .inr (.inl ⟨by simpa using h3,h2⟩)
   ·exact .inr (.inr ⟨by simpa using h3,by simpa using h2⟩)
 rcases hways with rfl | ⟨h3,rfl⟩ | ⟨h3,h2⟩
 ·go_enter Tryz.func46,Tryz.ntmps46
  go_upto_region 1 with (fail)
  rw [← hW1]
  clear hW1
  go_wp2_with fail
  refine (HI.out _).mono ?_
  rintro e w2 ⟨rfl,hb⟩
  have f0:=(hb.cell (p:=⟨w.heap.size,0,none⟩) hlt0).trans f0
  have q0:=(hb.cell HBK.out).trans q0
  have q1:=(hb.cell (p:=⟨(ad.add (k * 2)).block,(ad.add (k * 2)).off+1,none⟩) HBK.out).trans q1
  have hz:=Nat.lt_of_lt_of_le hlt0 hb.size
  have hz2:=Nat.lt_of_lt_of_le HBK.out hb.size
  have HB2:=hide_ (HB1.out.trans (hb.mono HB1.out.size))
  clear hb
  go_wp2_with fail
  go_big_quiet (fail)
  go_wp2
  go_ret2
  exact ⟨rfl,srt_below _ (HB2.out.alloc HB2.out.size _)⟩
 ·go_enter Tryz.func46,Tryz.ntmps46
  go_upto_region 1 with (fail)
  rw [← hW1]
  clear hW1
  go_wp2_with fail
  refine (HI.out _).mono ?_
  rintro e w2 ⟨rfl,hb⟩
  have f0:=(hb.cell (p:=⟨w.heap.size,0,none⟩) hlt0).trans f0
  have q0:=(hb.cell HBK.out).trans q0
  have q1:=(hb.cell (p:=⟨(ad.add (k * 2)).block,(ad.add (k * 2)).off+1,none⟩) HBK.out).trans q1
  have hz:=Nat.lt_of_lt_of_le hlt0 hb.size
  have hz2:=Nat.lt_of_lt_of_le HBK.out hb.size
  have HB2:=hide_ (HB1.out.trans (hb.mono HB1.out.size))
  clear hb
  go_wp2_with fail
  go_big_quiet (fail)
  go_wp2
  go_ret2
  exact ⟨rfl,srt_below _ (HB2.out.alloc HB2.out.size _)⟩
 ·rw [h3,h2,Bool.false_or,Bool.false_and]
  go_enter Tryz.func46,Tryz.ntmps46
  go_upto_region 1 with (fail)
  rw [← hW1]
  clear hW1
  go_wp2_with fail
  refine (HI.out _).mono ?_
  rintro e w2 ⟨rfl,hb⟩
  have f0:=(hb.cell (p:=⟨w.heap.size,0,none⟩) hlt0).trans f0
  have q0:=(hb.cell HBK.out).trans q0
  have q1:=(hb.cell (p:=⟨(ad.add (k * 2)).block,(ad.add (k * 2)).off+1,none⟩) HBK.out).trans q1
  have hz:=Nat.lt_of_lt_of_le hlt0 hb.size
  have hz2:=Nat.lt_of_lt_of_le HBK.out hb.size
  have HB2:=hide_ (HB1.out.trans (hb.mono HB1.out.size))
  clear hb
  go_wp2_with fail
  go_big_quiet (fail)
  go_wp2
  go_ret2
  exact ⟨rfl,srt_below _ (HB2.out.alloc HB2.out.size _)⟩
end Go.Proofs.YtikbegmodacopaaGreatDoor
namespace Go.Proofs.YtikbegmodacopaaGreatDoor
open Go.RowKit Go.PlainAid Go.BigFrame
set_option linter.unusedSimpArgs false
set_option linter.unusedVariables false
set_option maxRecDepth 100000
def mkB (n:Nat) (S:List Int):List Bool:=(List.range (n+1)).map fun i=>decide (((i:Nat):Int) ∈ S)
def booV (l:List Bool):List Value:=l.map Value.bool
theorem mkB_len (n:Nat) (S:List Int):(mkB n S).length=n+1:=by simp [mkB]
theorem mkB_nil (n:Nat):mkB n []=List.replicate (n+1) false:=by
 unfold mkB
 apply List.ext_getElem
 ·simp
 ·intro i h1 h2
  simp
theorem mkB_get {n k:Nat} (S:List Int) (hk:k≤n):(mkB n S)[k]?=some (decide ((k:Int) ∈ S)):=by
 unfold mkB
 rw [List.getElem?_map,List.getElem?_range (by omega)]
 rfl
theorem mkB_set {n j:Nat} (S:List Int) (hj:j≤n):(mkB n S).set j true=mkB n (S ++ [(j:Int)]):=by
 apply List.ext_getElem?
 intro i
 by_cases hi:i≤n
 ·rw [mkB_get _ hi,List.getElem?_set]
  by_cases e:j=i
  ·subst e
   rw [if_pos rfl,if_pos (by rw [mkB_len];omega)]
   simp
  ·rw [if_neg e,mkB_get _ hi]
   congr 1
   rw [decide_eq_decide,List.mem_append,List.mem_singleton]
   constructor
   ·exact fun h=>.inl h
   ·rintro (h | h)
    ·exact h
    ·omega
 ·rw [List.getElem?_eq_none (by rw [List.length_set,mkB_len];omega),List.getElem?_eq_none (by rw [mkB_len];omega)]
theorem booV_set (l:List Bool) (j:Nat) (b:Bool):(booV l).set j (.bool b)=booV (l.set j b):=by unfold booV;rw [List.map_set]
theorem boo_info:(Tryz.prog.info? 4).map (fun i=>(i.zero,i.size,i.bytes))=some (some (.bool false),1,1):=by kernel_rfl
def bRow (g c n:Nat) (S:List Int):Ro:=⟨4,1,.slice (some ⟨g,0,none⟩) (n+1) c,n+1,booV (mkB n S)⟩
theorem bR_at {W:World} {B g c n j:Nat} {S:List Int} (h:Owns W B [bRow g c n S]) (hj:j≤n) :
  (∃ b,W.cell? ⟨g,j,none⟩=some (.bool b))∧W.frozen? ⟨g,j,none⟩=false∧(B≤g∧g<W.heap.size)∧Owns (W.setCell ⟨g,j,none⟩ (.bool true)) B [bRow g c n (S ++ [(j:Int)])]:=by
 have hl:j<(booV (mkB n S)).length:=by unfold booV;rw [List.length_map,mkB_len];omega
 refine ⟨⟨_,h.cell (i:=0) (j:=j) rfl (show (booV (mkB n S))[j]?=some (.bool (decide ((j:Int) ∈ S))) by unfold booV;rw [List.getElem?_map,mkB_get _ hj];rfl)⟩,h.frozen (i:=0) (e:=4) (size:=1) rfl j,h.base (i:=0) (e:=4) (size:=1) rfl,?_⟩
 have h1:=h.store (i:=0) (e:=4) (size:=1) rfl hl (.bool true)
 rw [booV_set,mkB_set _ hj] at h1
 exact h1
set_option maxHeartbeats 8000000 in
theorem rplaces_any (x:ImgV) (s:ImgS) (w:World) (hx:ImgOk x) (hr:ImgR w w.heap.size x s) (hbd:x.code.length≤16384∧x.jumps.length≤16384∧x.names.length≤64) (hbg:begB x=true) :
  Calls Tryz.prog 44 #[.agg (imgV x s)] w fun e w'=>∃ g c,e=.returned (.slice (some ⟨g,0,none⟩) (x.code.length+1) c)∧Owns w' w.heap.size [bRow g c x.code.length (allP x)]∧Below w.heap.size w w':=by
 obtain ⟨l1,l2,l4⟩:=hbd
 obtain ⟨i0,hi0,hz0,hz1,hz2⟩:=info_parts boo_info
 have HOK:=hide_ hx
 have HR:=hide_ hr
 have HIN:=hide_ (allP_le hx hbg)
 obtain ⟨W1,hW1⟩:∃ W,W=w.alloc (.cells (imgV x s) 28):=⟨_,rfl⟩
 have HB1:=hide_ (show Below w.heap.size w W1 by rw [hW1];exact (Below.refl _ _).alloc (Nat.le_refl _) _)
 have HK1:=hide_ (show Blk W1 w.heap.size 28 (imgV x s) by rw [hW1];exact Blk.new w _ _)
 have hlt0:w.heap.size<W1.heap.size:=by rw [hW1];simp
 have HAT:=hide_ (fun W (hb:Below W1.heap.size W1 W)=>img_cells (HK1.out.below hb hlt0))
 have FIN:=hide_ (fun W (hb:Below W1.heap.size W1 W)=>show Below w.heap.size w W from HB1.out.trans (hb.mono (by omega)))
 have HRR:=hide_ (fun W (hb:Below W1.heap.size W1 W)=>show ImgR W W.heap.size x s from (HR.out.below (FIN.out W hb)).more (by have:=hb.size;omega))
 have HST:=hide_ (fun W (hb:Below W1.heap.size W1 W) k t ht=>rstatic_any x s k t W HOK.out (HRR.out W hb) ht)
 have LOW:=hide_ (Nat.le_of_lt hlt0)
 clear HR HK1 HB1 hr hx
 unfold imgV at hW1 HST ⊢
 obtain ⟨⟨cA,cc⟩,⟨jA,jc⟩,⟨dA,dc⟩,⟨nA,nc⟩⟩:=s
 dsimp only at hW1 HAT HRR HST ⊢
 obtain ⟨n,hn⟩:∃ n,n=x.code.length:=⟨_,rfl⟩
 rw [← hn] at l1 HAT hW1 HST HIN ⊢
 have HN:=hide_ hn
 clear hn
 go_enter Tryz.func44,Tryz.ntmps44
 go_upto_region 1 with (fail)
 rw [← hW1]
 clear hW1
 have HBW:=hide_ (Below.refl W1.heap.size W1)
 go_wp2_with fail
 go_loopw [3,4] (fun v i wr=>∃ k:Nat,k≤n+1∧i=.int .i64 k∧Hid (Owns wr W1.heap.size [⟨4,1,v,k,booV (List.replicate k false)⟩])∧Hid (Below W1.heap.size W1 wr)) (fun _ i _=>n+1 - (intOf i).toNat)
 case atStart=>exact ⟨0,Nat.zero_le _,rfl,hide_ ⟨fun q hq=>by rw [List.mem_singleton.1 hq];exact World.ownsRow_nil _ _ _ _,List.pairwise_singleton _ _⟩,HBW⟩
 case round =>
  clear HBW
  obtain ⟨k,hk,rfl,HO,HB⟩:=hrel
  obtain ⟨f0,f1,f2,f3,f4,f5⟩:=HAT.out wr HB.out
  obtain ⟨A0,c0,hv,_,_⟩:=ownsRow_slice (HO.out.at_ (i:=0) rfl)
  dsimp only at hv
  subst hv
  by_cases hlt:k≤n
  ·have c1:decide ((k:Int)≤(n:Int))=true:=decide_eq_true (by omega)
   have c2:decide (k≤n)=true:=decide_eq_true hlt
   have NEXT:=hide_ (show booV (List.replicate k false) ++ [.bool false]=booV (List.replicate (k+1) false) by unfold booV;rw [List.replicate_succ'];simp)
   go_wp2_with (at_builtin;refine wpList_append_owns _ rfl (.tmp 17) (.tmp 18) 84 rfl W1.heap.size _ 0 4 1 _ k _ rfl (HO.out.alloc _) (by have:=HB.out.size;simp;omega) i0 _ 1 Tryz.underlying84 hi0 hz0 hz1 hz2 rfl (by omega) rfl _ _ 1 1 [.bool false] rfl (reads_new wr 4 1 1 [.bool false] rfl) (by simp [Value.oneCell']) (by simp only [maxLen];omega) (by omega) ?_)
   intro v1 w1 hO1 hb1 hsz1
   have HO1:=hide_ hO1
   have HB1:=hide_ ((HB.out.alloc HB.out.size _).trans hb1)
   clear hO1 hb1 hsz1 f0 f1 f2 f3 f4 f5
   go_wp2
   go_roundw
   case rel=>exact ⟨k+1,by omega,by go_num,hide_ (by have h9:=HO1.out;rw [NEXT.out] at h9;exact h9),HB1⟩
   case measure=>simp [intOf] <;> omega
  ·obtain rfl:k=n+1:=by omega
   have c1:decide (((n:Int)+1)≤(n:Int))=false:=decide_eq_false (by omega)
   have c2:decide (n+1≤n)=false:=decide_eq_false (by omega)
   obtain ⟨g,c,hgc⟩:=ownsRow_some (HO.out.at_ (i:=0) rfl) (by show 0<n+1;omega)
   dsimp only at hgc
   injection hgc with hgc _ hcc
   subst hgc hcc
   have HO2:=hide_ (show Owns wr W1.heap.size [bRow g c0 n (x.jumps.take 0)] by
    unfold bRow
    rw [List.take_zero,mkB_nil]
    exact HO.out)
   clear HO
   go_wp2_with fail
   obtain ⟨wo,rfl⟩:∃ wo:World,wo=wr:=⟨_,rfl⟩
   go_loopw [5] (fun i wr=>∃ k:Nat,k≤x.jumps.length∧i=.int .i64 k∧Hid (Owns wr W1.heap.size [bRow g c0 n (x.jumps.take k)])∧Hid (Below W1.heap.size W1 wr)) (fun i _=>x.jumps.length - (intOf i).toNat)
   case atStart=>exact ⟨0,Nat.zero_le _,rfl,HO2,HB⟩
   case round =>
    clear HO2 HB f0 f1 f2 f3 f4 f5 c1 c2
    obtain ⟨k,hk,rfl,HO,HB⟩:=hrel
    obtain ⟨f0,f1,f2,f3,f4,f5⟩:=HAT.out wr HB.out
    by_cases hlt:k<x.jumps.length
    ·obtain ⟨p,hp⟩:∃ p,x.jumps[k]?=some p:=⟨_,List.getElem?_eq_getElem hlt⟩
     obtain ⟨p0,p1⟩:=HIN.out p (by unfold allP;exact List.mem_append_left _ (List.mem_append_left _ (List.mem_of_getElem? hp)))
     obtain ⟨j,rfl⟩:∃ j:Nat,p=j:=⟨p.toNat,by omega⟩
     have hjn:j≤n:=by omega
     obtain ⟨ad,rfl,hbk,hcell⟩:=(HRR.out wr HB.out).rj.2 (by omega)
     have q0:=hcell k _ (u32s_get hp)
     obtain ⟨⟨b,s1⟩,s2,⟨s3,s4⟩,s5⟩:=bR_at HO.out hjn
     have NEXT:=hide_ (takeU_at hp)
     have HS5:=hide_ s5
     have HS3:=hide_ s3
     have hj2:j<n+1:=by omega
     clear hcell hp s5 s3 HO p0 p1
     go_wp2
     go_roundw
     case rel=>exact ⟨k+1,by omega,by go_num,hide_ (by rw [NEXT.out];exact HS5.out),hide_ (HB.out.setCell (p:=⟨g,j,none⟩) HS3.out _)⟩
     case measure=>simp [intOf] <;> omega
    ·obtain rfl:k=x.jumps.length:=by omega
     have HO2:=hide_ (show Owns wr W1.heap.size [bRow g c0 n (x.jumps ++ (x.names.take 0).map (·.at_))] by
      have h9:=HO.out
      rw [List.take_length] at h9
      simpa using h9)
     clear HO
     go_wp2_with fail
     obtain ⟨wo2,rfl⟩:∃ wo:World,wo=wr:=⟨_,rfl⟩
     go_loopw [6] (fun i wr=>∃ k:Nat,k≤x.names.length∧i=.int .i64 k∧Hid (Owns wr W1.heap.size [bRow g c0 n (x.jumps ++ (x.names.take k).map (·.at_))])∧Hid (Below W1.heap.size W1 wr)) (fun i _=>x.names.length - (intOf i).toNat)
     case atStart=>exact ⟨0,Nat.zero_le _,rfl,HO2,HB⟩
     case round =>
      clear HO2 HB f0 f1 f2 f3 f4 f5
      obtain ⟨k,hk,rfl,HO,HB⟩:=hrel
      obtain ⟨f0,f1,f2,f3,f4,f5⟩:=HAT.out wr HB.out
      by_cases hlt:k<x.names.length
      ·obtain ⟨t,ht⟩:∃ t,x.names[k]?=some t:=⟨_,List.getElem?_eq_getElem hlt⟩
       obtain ⟨p0,p1⟩:=HIN.out t.at_ (by unfold allP;exact List.mem_append_left _ (List.mem_append_right _ (List.mem_map_of_mem (f:=(·.at_)) (List.mem_of_getElem? ht))))
       obtain ⟨_,ad,rfl,hbk,r0,r1⟩:=el_cells xE_len (HRR.out wr HB.out).rn (by omega) ht
       have q1:=r1 1 _ (by omega) rfl
       have NEXT:=hide_ (show x.jumps ++ (x.names.take (k+1)).map (·.at_)=x.jumps ++ (x.names.take k).map (·.at_) ++ [t.at_] by rw [take_at _ ht,List.append_assoc])
       obtain ⟨nm,at_⟩:=t
       dsimp only at q1 p0 p1 NEXT
       obtain ⟨j,rfl⟩:∃ j:Nat,at_=j:=⟨at_.toNat,by omega⟩
       have hjn:j≤n:=by omega
       obtain ⟨⟨b,s1⟩,s2,⟨s3,s4⟩,s5⟩:=bR_at HO.out hjn
       have HS5:=hide_ s5
       have HS3:=hide_ s3
       have hj2:j<n+1:=by omega
       clear r0 r1 ht s5 s3 HO p0 p1
       go_wp2
       go_roundw
       case rel=>exact ⟨k+1,by omega,by go_num,hide_ (by rw [NEXT.out];exact HS5.out),hide_ (HB.out.setCell (p:=⟨g,j,none⟩) HS3.out _)⟩
       case measure=>simp [intOf] <;> omega
      ·obtain rfl:k=x.names.length:=by omega
       have HO2:=hide_ (show Owns wr W1.heap.size [bRow g c0 n (x.jumps ++ x.names.map (·.at_) ++ ((x.code.take 0).filter (stB n)).map (·.2))] by
        have h9:=HO.out
        rw [List.take_length] at h9
        simpa using h9)
       clear HO
       go_wp2_with fail
       obtain ⟨wo3,rfl⟩:∃ wo:World,wo=wr:=⟨_,rfl⟩
       go_loopw [7] (fun i wr=>∃ k:Nat,k≤n∧i=.int .i64 k∧Hid (Owns wr W1.heap.size [bRow g c0 n (x.jumps ++ x.names.map (·.at_) ++ ((x.code.take k).filter (stB n)).map (·.2))])∧Hid (Below W1.heap.size W1 wr)) (fun i _=>n - (intOf i).toNat)
       case atStart=>exact ⟨0,Nat.zero_le _,rfl,HO2,HB⟩
       case round =>
        clear HO2 HB f0 f1 f2 f3 f4 f5
        obtain ⟨k,hk,rfl,HO,HB⟩:=hrel
        obtain ⟨f0,f1,f2,f3,f4,f5⟩:=HAT.out wr HB.out
        by_cases hlt:k<n
        ·obtain ⟨t,ht⟩:∃ t,x.code[k]?=some t:=⟨_,List.getElem?_eq_getElem (by have:=HN.out;omega)⟩
         have HC:=hide_ (HST.out wr HB.out k t ht)
         have NEXT:=hide_ (congrArg (fun q=>x.jumps ++ x.names.map (·.at_) ++ q) (takeF_at (stB n) (·.2) ht))
         have HLE:=hide_ (fun (h:stB n t=true)=>HIN.out t.2 (by unfold allP;rw [← HN.out];exact List.mem_append_right _ (List.mem_map_of_mem (f:=(·.2)) (List.mem_filter.2 ⟨List.mem_of_getElem? ht,h⟩))))
         obtain ⟨op,arg⟩:=t
         dsimp only at HC NEXT HLE
         obtain ⟨b,hb⟩:∃ b,b=stB n (op,arg):=⟨_,rfl⟩
         rw [← hb] at HC NEXT HLE
         clear hb ht
         go_wp2_with fail
         refine HC.out.mono ?_
         rintro e w3 ⟨rfl,hb3⟩
         have HO3:=hide_ (HO.out.below hb3)
         have HB3:=hide_ (HB.out.trans (hb3.mono HB.out.size))
         clear hb3 f0 f1 f2 f3 f4 f5 HO HB
         cases b with
         | true =>
          obtain ⟨p0,p1⟩:=HLE.out (by simp)
          obtain ⟨j,rfl⟩:∃ j:Nat,arg=j:=⟨arg.toNat,by omega⟩
          have hjn:j≤n:=by omega
          obtain ⟨⟨b,s1⟩,s2,⟨s3,s4⟩,s5⟩:=bR_at HO3.out hjn
          have HS5:=hide_ s5
          have HS3:=hide_ s3
          have hj2:j<n+1:=by omega
          clear s5 s3 HO3 p0 p1
          go_wp2
          go_roundw
          case rel=>exact ⟨k+1,by omega,by go_num,hide_ (by have h8:=NEXT.out;simp only [if_true] at h8;rw [h8];have h9:=HS5.out;simpa using h9),hide_ (HB3.out.setCell (p:=⟨g,j,none⟩) HS3.out _)⟩
          case measure=>simp [intOf] <;> omega
         | false =>
          go_wp2
          go_roundw
          case rel=>exact ⟨k+1,by omega,by go_num,hide_ (by have h9:=HO3.out;have h8:=NEXT.out;simp only [Bool.false_eq_true,if_false,List.append_nil] at h8;rw [h8];exact h9),HB3⟩
          case measure=>simp [intOf] <;> omega
        ·obtain rfl:k=n:=by omega
         have HO2:=hide_ (show Owns wr W1.heap.size [bRow g c0 k (allP x)] by
          have h9:=HO.out
          rw [List.take_of_length_le (by rw [HN.out];exact Nat.le_refl _)] at h9
          unfold allP
          rw [← HN.out]
          exact h9)
         clear HO
         go_wp2
         go_ret
         exact ⟨g,c0,rfl,⟨fun r hr=>own_lo (HO2.out.1 r hr) LOW.out,HO2.out.2⟩,FIN.out _ HB.out⟩
end Go.Proofs.YtikbegmodacopaaGreatDoor
namespace Go.Proofs.YtikbegmodacopaaGreatDoor
open Go.RowKit Go.PlainAid Go.BigFrame
set_option linter.unusedSimpArgs false
set_option linter.unusedVariables false
set_option maxRecDepth 100000
section
variable {W:World} {B g n c:Nat} {y:ObjV} {s:ObjS} {tl:List Ro} {A:Option Addr} {xs:List Value}
theorem oR_cod (h:Owns W B ((oRows g y s tl).set 1 ⟨66,2,.slice A n c,n,xs⟩)) (l:Int × Int) (hn:n=y.code.length+1) (hx:xs=y.code.flatMap cE ++ cE l) :
  Owns (W.setCell ⟨g,0,none⟩ (.slice A n c)) B (oRows g { y with code:=y.code ++ [l] } { s with c:=⟨A,c⟩ } tl):=by
 subst hn hx
 have h1:=h.store (i:=0) (e:=36) (size:=1) (n:=8) (g:=g) (c:=8) (j:=0) rfl (by show 0<8;omega) (.slice A (y.code.length+1) c)
 have e:((oRows g y s tl).set 1 ⟨66,2,.slice A (y.code.length+1) c,y.code.length+1,y.code.flatMap cE ++ cE l⟩).set 0 ⟨36,1,.slice (some ⟨g,0,none⟩) 8 8,8,((objV y s).toList).set 0 (.slice A (y.code.length+1) c)⟩=oRows g { y with code:=y.code ++ [l] } { s with c:=⟨A,c⟩ } tl:=by
  simp [oRows,objV]
 rw [← e]
 exact h1
theorem oR_dat (h:Owns W B ((oRows g y s tl).set 2 ⟨5,1,.slice A n c,n,xs⟩)) (l:Int) (hn:n=y.data.length+1) (hx:xs=u8s y.data ++ [.int .u8 l]) :
  Owns (W.setCell ⟨g,1,none⟩ (.slice A n c)) B (oRows g { y with data:=y.data ++ [l] } { s with d:=⟨A,c⟩ } tl):=by
 subst hn hx
 have h1:=h.store (i:=0) (e:=36) (size:=1) (n:=8) (g:=g) (c:=8) (j:=1) rfl (by show 1<8;omega) (.slice A (y.data.length+1) c)
 have e:((oRows g y s tl).set 2 ⟨5,1,.slice A (y.data.length+1) c,y.data.length+1,u8s y.data ++ [.int .u8 l]⟩).set 0 ⟨36,1,.slice (some ⟨g,0,none⟩) 8 8,8,((objV y s).toList).set 1 (.slice A (y.data.length+1) c)⟩=oRows g { y with data:=y.data ++ [l] } { s with d:=⟨A,c⟩ } tl:=by
  simp [oRows,objV]
 rw [← e]
 exact h1
theorem oR_zero (h:Owns W B (oRows g y s tl)) (z:Int):Owns (W.setCell ⟨g,2,none⟩ (.int .u32 z)) B (oRows g { y with zero:=z } s tl) :=
 h.store (i:=0) (e:=36) (size:=1) (n:=8) (g:=g) (c:=8) (j:=2) rfl (by show 2<8;omega) (.int .u32 z)
theorem oR_stack (h:Owns W B (oRows g y s tl)) (z:Int):Owns (W.setCell ⟨g,3,none⟩ (.int .u32 z)) B (oRows g { y with stack:=z } s tl) :=
 h.store (i:=0) (e:=36) (size:=1) (n:=8) (g:=g) (c:=8) (j:=3) rfl (by show 3<8;omega) (.int .u32 z)
end
section
variable {W:World} {B g:Nat} {y:ObjV} {s:ObjS} {tl:List Ro}
theorem wst_cod {ops:Array Oper} {rest:List Oper} {o:Oper} {a:Act} {Q:Exit→Act→World→Prop} (hgd:o.guard=none) (u v:Operand)
  (ho:o.op=.call { callee:=.builtin .append,args:=#[u,v],argTypes:=#[22,22] }) (hO:Owns W B (oRows g y s tl)) (hB:B≤W.heap.size) (hs:a.eval u=.slice s.c.A y.code.length s.c.c) (l:Int × Int)
  (hx:a.eval v=.slice (some ⟨W.heap.size,0,none⟩) 1 1) (hl:y.code.length≤1048576)
  (h:∀ A c w',Owns (w'.setCell ⟨g,0,none⟩ (.slice A (y.code.length+1) c)) B (oRows g { y with code:=y.code ++ [l] } { s with c:=⟨A,c⟩ } tl)→w'.cell? ⟨g,0,none⟩=some (.slice s.c.A y.code.length s.c.c)→w'.frozen? ⟨g,0,none⟩=false→g<w'.heap.size →
    Below B W (w'.setCell ⟨g,0,none⟩ (.slice A (y.code.length+1) c))→wpList Tryz.prog ops Q rest (a.put o.dst (.slice A (y.code.length+1) c)) w'):wpList Tryz.prog ops Q (o :: rest) a (W.alloc (.cells #[.int .u8 l.1,.int .u32 l.2] 66)):=by
 obtain ⟨i0,hi,hz0,hz1,hz2⟩:=info_parts ci_info
 have hr:(oRows g y s tl)[1]?=some ⟨66,2,.slice s.c.A y.code.length s.c.c,y.code.length,y.code.flatMap cE⟩:=rfl
 have hOA:=hO.alloc (.cells #[.int .u8 l.1,.int .u32 l.2] 66)
 have hBA:B≤(W.alloc (.cells #[.int .u8 l.1,.int .u32 l.2] 66)).heap.size:=by rw [World.size_alloc];omega
 refine wpList_plain hgd fun K hK=>wp_append_any _ u v 22 ho B 66 i0 _ 2 8 Tryz.underlying22 hi hz0 hz1 hz2 rfl (by omega) _ y.code.length _ hs (hOA.at_ hr) _ _ 1 1 (cE l) hx (reads_new W 66 2 1 (cE l) rfl) (by simp [Value.oneCell',cE,lE,fE,eE]) (by simp only [maxLen];omega) (by omega) hBA fun v' w' hown hg hat=>hK _ _ ?_
 obtain ⟨A,c,rfl,_,_⟩:=ownsRow_slice hown
 have hO':=hOA.turn hr hg (r':=⟨66,2,.slice A (y.code.length+1) c,y.code.length+1,y.code.flatMap cE ++ (cE l)⟩) hown (by
  rcases hat with h2 | h2
  ·exact .inl h2
  ·exact .inr (.inr ⟨_,h2,Nat.le_refl _⟩))
 have hb:=(Below.refl B (W.alloc (.cells #[.int .u8 l.1,.int .u32 l.2] 66))).grown hg hBA (fun j hj=>(hOA.lt_ (List.mem_of_getElem? hr) hj).1)
 have hgb:=hO'.base (i:=0) (e:=36) (size:=1) (n:=8) (g:=g) (c:=8) rfl
 exact h A c w' (oR_cod hO' l rfl rfl) (hO'.cell (i:=0) (j:=0) rfl rfl) (hO'.frozen (i:=0) rfl 0) hgb.2 ((((Below.refl B W).alloc hB _).trans hb).setCell (p:=⟨g,0,none⟩) hgb.1 _)
theorem stp_dat {ops:Array Oper} {o:Oper} {a:Act} {K:Act→World→Prop} {Q:Exit→Act→World→Prop} {E:Prop} (hgd:o.guard=none) (u v:Operand)
  (ho:o.op=.call { callee:=.builtin .append,args:=#[u,v],argTypes:=#[24,24] }) (hO:Owns W B (oRows g y s tl)) (hB:B≤W.heap.size) (hs:a.eval u=.slice s.d.A y.data.length s.d.c) (l:Int)
  (hx:a.eval v=.slice (some ⟨W.heap.size,0,none⟩) 1 1) (hl:y.data.length≤1048576)
  (h:∀ A c w',Owns (w'.setCell ⟨g,1,none⟩ (.slice A (y.data.length+1) c)) B (oRows g { y with data:=y.data ++ [l] } { s with d:=⟨A,c⟩ } tl)→w'.cell? ⟨g,1,none⟩=some (.slice s.d.A y.data.length s.d.c)→w'.frozen? ⟨g,1,none⟩=false→g<w'.heap.size →
    Below B W (w'.setCell ⟨g,1,none⟩ (.slice A (y.data.length+1) c))→K (a.put o.dst (.slice A (y.data.length+1) c)) w') :
  if Region.wanted o (yielded ops a.tmps)=true then Oper.wp Tryz.prog o a (W.alloc (.cells #[.int .u8 l] 5)) K Q else E:=by
 have hw:Region.wanted o (yielded ops a.tmps)=true:=by simp [Region.wanted,hgd]
 rw [if_pos hw]
 obtain ⟨i0,hi,hz0,hz1,hz2⟩:=info_parts cb_info
 have hr:(oRows g y s tl)[2]?=some ⟨5,1,.slice s.d.A y.data.length s.d.c,y.data.length,u8s y.data⟩:=rfl
 have hOA:=hO.alloc (.cells #[.int .u8 l] 5)
 have hBA:B≤(W.alloc (.cells #[.int .u8 l] 5)).heap.size:=by rw [World.size_alloc];omega
 refine wp_append_any _ u v 24 ho B 5 i0 _ 1 1 Tryz.underlying24 hi hz0 hz1 hz2 rfl (by omega) _ y.data.length _ hs (hOA.at_ hr) _ _ 1 1 [.int .u8 l] hx (reads_new W 5 1 1 [.int .u8 l] rfl) (by simp [Value.oneCell',cE,lE,fE,eE]) (by simp only [maxLen];omega) (by omega) hBA ?_
 intro v' w' hown hg hat
 obtain ⟨A,c,rfl,_,_⟩:=ownsRow_slice hown
 have hO':=hOA.turn hr hg (r':=⟨5,1,.slice A (y.data.length+1) c,y.data.length+1,u8s y.data ++ [.int .u8 l]⟩) hown (by
  rcases hat with h2 | h2
  ·exact .inl h2
  ·exact .inr (.inr ⟨_,h2,Nat.le_refl _⟩))
 have hb:=(Below.refl B (W.alloc (.cells #[.int .u8 l] 5))).grown hg hBA (fun j hj=>(hOA.lt_ (List.mem_of_getElem? hr) hj).1)
 have hgb:=hO'.base (i:=0) (e:=36) (size:=1) (n:=8) (g:=g) (c:=8) rfl
 exact h A c w' (oR_dat hO' l rfl rfl) (hO'.cell (i:=0) (j:=1) rfl rfl) (hO'.frozen (i:=0) rfl 1) hgb.2 ((((Below.refl B W).alloc hB _).trans hb).setCell (p:=⟨g,1,none⟩) hgb.1 _)
end
def y0O:ObjV:=⟨[],[],0,0,[],[],[],[]⟩
def s0O:ObjS:=⟨⟨none,0⟩,⟨none,0⟩,⟨none,0⟩,⟨none,0⟩,⟨none,0⟩,⟨none,0⟩⟩
theorem start0 {W:World} {B g:Nat} {r:Ro} (h:Owns W B [⟨36,1,.slice (some ⟨g,0,none⟩) 8 8,8,z8.toList⟩,r]) (hB:B≤W.heap.size):Owns W B (oRows g y0O s0O [r]):=by
 have h1:=nil4 ((h.push (Below.refl _ _) (r:=⟨66,2,.slice none 0 0,0,[]⟩) (World.ownsRow_nil _ _ _ _) hB).push (Below.refl _ _) (r:=⟨5,1,.slice none 0 0,0,[]⟩) (World.ownsRow_nil _ _ _ _) hB) hB
 refine Owns.perm h1 fun cnt one k1 k2 k3=>?_
 simp only [oRows,y0O,s0O,objV,z8,k1,k2,k3,List.length_nil,List.flatMap_nil,strV,u8s,List.map_nil]
 omega
def labK (x:ImgV) (k:Nat):List LabV:=((List.range k).filter fun i=>decide (((i:Nat):Int) ∈ allP x)).map fun i=>labP ((i:Nat):Int)
theorem labK_at (x:ImgV) (k:Nat):labK x (k+1)=labK x k ++ (if decide ((k:Int) ∈ allP x)=true then [labP (k:Int)] else []):=by
 unfold labK
 rw [List.range_succ,List.filter_append,List.map_append]
 congr 1
 cases h:decide ((k:Int) ∈ allP x) <;> simp [List.filter_cons,h]
theorem labK_len (x:ImgV) (k:Nat):(labK x k).length≤k:=by
 unfold labK
 rw [List.length_map]
 have:=List.length_filter_le (fun i=>decide (((i:Nat):Int) ∈ allP x)) (List.range k)
 rw [List.length_range] at this
 exact this
theorem labK_all {x:ImgV} (hx:ImgOk x) (hb:begB x=true):labK x (x.code.length+1)=(plc x).map labP:=by
 rw [plc_eq hx hb]
 unfold labK plcR
 rw [List.map_map]
 rfl
end Go.Proofs.YtikbegmodacopaaGreatDoor
