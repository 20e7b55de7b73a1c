/-
  Joined and packed by program.
-/
import Derived.Test.YtikbegmodacopaaGreatDoorC15
import Derived.Deep.CutRange
import Derived.Deep.RegionLaw
namespace Go.Proofs.YtikbegmodacopaaGreatDoor
open Go.RowKit Go.PlainAid Go.BigFrame
set_option linter.unusedSimpArgs false
set_option linter.unusedVariables false
set_option maxRecDepth 100000
def z8:Array Value:=#[.slice none 0 0,.slice none 0 0,.int .u32 0,.int .u32 0,.slice none 0 0,.slice none 0 0,.slice none 0 0,.slice none 0 0]
def ObjIs (x:ImgV) (w:World) (e:Ending) (w':World):Prop :=
 if objE x=0 then ∃ s,e=.returned (.tuple #[.agg (objV (objO x) s),.int .i64 0])∧Owns w' w.heap.size (ownO (objO x) s)∧Below w.heap.size w w'
 else e=.returned (.tuple #[.agg z8,.int .i64 (objE x)])∧Below w.heap.size w w'
theorem obj_no {x:ImgV} {w w':World} {e:Int} (h:objE x=e) (h0:e≠0) (hb:Below w.heap.size w w'):ObjIs x w (.returned (.tuple #[.agg z8,.int .i64 e])) w':=by
 unfold ObjIs;rw [if_neg (by rw [h];exact h0),h];exact ⟨rfl,hb⟩
theorem Owns.lo {W:World} {B B':Nat} {rs:List Ro} (h:Owns W B rs) (hB:B'≤B):Owns W B' rs:=⟨fun r hr=>own_lo (h.1 r hr) hB,h.2⟩
theorem obj_yes {x:ImgV} {s:ObjS} {w W:World} {B g q:Nat} {av:Value} {P:List Int} {cs:Array Value} (h:objE x=0) (hO:Owns W B (oRows g (objO x) s [⟨25,1,av,P.length,u32s P⟩])) (hq:q<B) (hB:w.heap.size≤q∧w.heap.size≤B) (hb:Below w.heap.size w W) (hc:cs=objV (objO x) s) :
  ObjIs x w (.returned (.tuple #[.agg cs,.int .i64 0])) (W.setRow q cs):=by
 subst hc
 unfold ObjIs
 rw [if_pos h]
 refine ⟨s,rfl,?_,below_setRow hb hB.1 _⟩
 have h1:=(hO.keepB (w':=W.setRow q (objV (objO x) s)) fun k hk _=>setRow_other _ _ _ _ (by omega)).lo hB.2
 refine h1.pick [⟨36,1,.slice (some ⟨g,0,none⟩) 8 8,8,(objV (objO x) s).toList⟩,⟨25,1,av,P.length,u32s P⟩] fun cnt one k1 k2 k3=>?_
 unfold oRows ownO
 simp only [k2,k3]
 omega
theorem z8_sz:(Tryz.prog.info? 36).map (·.size)=some z8.size:=by kernel_rfl
theorem z8_one:z8.all (·.oneCell')=true:=by kernel_rfl
theorem oe_chk {x:ImgV} (h:imgChk x≠0):objE x=imgChk x:=if_pos h
theorem oe_120 {x:ImgV} (h:imgChk x=0) (h1:begB x=false):objE x=120:=by unfold objE;rw [if_neg (by simpa using h),if_pos h1]
theorem oe_121 {x:ImgV} (h:imgChk x=0) (h1:begB x=true) (h2:4096<(plc x).length):objE x=121:=by unfold objE;rw [if_neg (by simpa using h),if_neg (by rw [h1];simp),if_pos h2]
theorem oe_0 {x:ImgV} (h:imgChk x=0) (h1:begB x=true) (h2:¬ 4096<(plc x).length):objE x=0:=by unfold objE;rw [if_neg (by simpa using h),if_neg (by rw [h1];simp),if_neg h2]
theorem ic_bound {x:ImgV} (hx:ImgOk x) (h:imgChk x=0):(x.code.length≤16384∧x.jumps.length≤16384∧x.names.length≤64)∧roomOf x≤65536∧nmsB x.names=true:=by
 unfold imgChk at h
 split at h
 ·cases h
 ·split at h
  ·exact absurd h (by assumption)
  ·split at h
   ·cases h
   ·split at h
    ·cases h
    ·split at h
     ·cases h
     ·rename_i h1 h2 h3 h4 h5
      have h6:=fun q=>h4 (.inr q)
      have h7:=fun q=>h5 (.inl q)
      refine ⟨⟨by omega,by omega,by omega⟩,by omega,?_⟩
      cases hn:nmsB x.names with
      | true=>rfl
      | false=>exact absurd (.inr hn) h5
section
variable {W1 W W':World} {b:Nat} {a0 a2 a3 a4:Value}
theorem kpB (hz:b<W1.heap.size) (h:W.cell? ⟨b,0,none⟩=some a0∧W.cell? ⟨b,2,none⟩=some a2∧W.cell? ⟨b,3,none⟩=some a3∧W.cell? ⟨b,4,none⟩=some a4∧Below W1.heap.size W1 W) (hb:Below W1.heap.size W W') :
  W'.cell? ⟨b,0,none⟩=some a0∧W'.cell? ⟨b,2,none⟩=some a2∧W'.cell? ⟨b,3,none⟩=some a3∧W'.cell? ⟨b,4,none⟩=some a4∧Below W1.heap.size W1 W' :=
 ⟨(hb.cell (p:=⟨b,0,none⟩) hz).trans h.1,(hb.cell (p:=⟨b,2,none⟩) hz).trans h.2.1,(hb.cell (p:=⟨b,3,none⟩) hz).trans h.2.2.1,(hb.cell (p:=⟨b,4,none⟩) hz).trans h.2.2.2.1,h.2.2.2.2.trans hb⟩
theorem kpU (hz:b<W1.heap.size) (h:W.cell? ⟨b,0,none⟩=some a0∧W.cell? ⟨b,2,none⟩=some a2∧W.cell? ⟨b,3,none⟩=some a3∧W.cell? ⟨b,4,none⟩=some a4∧Below W1.heap.size W1 W) (hb:Below W.heap.size W W') :
  W'.cell? ⟨b,0,none⟩=some a0∧W'.cell? ⟨b,2,none⟩=some a2∧W'.cell? ⟨b,3,none⟩=some a3∧W'.cell? ⟨b,4,none⟩=some a4∧Below W1.heap.size W1 W':=kpB hz h (hb.mono h.2.2.2.2.size)
theorem kp0 (h0:W.cell? ⟨b,0,none⟩=some a0) (h2:W.cell? ⟨b,2,none⟩=some a2) (h3:W.cell? ⟨b,3,none⟩=some a3) (h4:W.cell? ⟨b,4,none⟩=some a4) (h:Below W1.heap.size W1 W) :
  W.drew.cell? ⟨b,0,none⟩=some a0∧W.drew.cell? ⟨b,2,none⟩=some a2∧W.drew.cell? ⟨b,3,none⟩=some a3∧W.drew.cell? ⟨b,4,none⟩=some a4∧Below W1.heap.size W1 W.drew:=⟨h0,h2,h3,h4,h.drew⟩
theorem kpE {P0 P2 P3 P4 Q:Prop} (h:P0∧P2∧P3∧P4∧Q):Q:=h.2.2.2.2
end
theorem nil4 {W:World} {B:Nat} {rs:List Ro} (h:Owns W B rs) (hB:B≤W.heap.size):Owns W B (rs ++ [⟨78,4,.slice none 0 0,0,[]⟩] ++ [⟨81,4,.slice none 0 0,0,[]⟩] ++ [⟨9,1,.slice none 0 0,0,[]⟩] ++ [⟨83,2,.slice none 0 0,0,[]⟩]) :=
 (((h.push (Below.refl _ _) (r:=⟨78,4,.slice none 0 0,0,[]⟩) (World.ownsRow_nil _ _ _ _) hB).push (Below.refl _ _) (r:=⟨81,4,.slice none 0 0,0,[]⟩) (World.ownsRow_nil _ _ _ _) hB).push (Below.refl _ _) (r:=⟨9,1,.slice none 0 0,0,[]⟩) (World.ownsRow_nil _ _ _ _) hB).push (Below.refl _ _) (r:=⟨83,2,.slice none 0 0,0,[]⟩) (World.ownsRow_nil _ _ _ _) hB
theorem start_rows {W:World} {B g:Nat} {P:List Int} {av:Value} {x:ImgV} {AC AD:Option Addr} {c1 c2:Nat} {l:List Ro} (h:Owns W B l) (hB:B≤W.heap.size)
  (hc:∀ (cnt:List Ro→Nat) (one:Ro→Nat),(∀ x y,cnt (x ++ y)=cnt x+cnt y)→(∀ x l,cnt (x :: l)=one x+cnt l)→cnt []=0→cnt l=cnt [⟨25,1,av,P.length,u32s P⟩,⟨36,1,.slice (some ⟨g,0,none⟩) 8 8,8,[.slice AC x.code.length c1,.slice AD x.data.length c2,.int .u32 x.zero,.int .u32 x.stack,.slice none 0 0,.slice none 0 0,.slice none 0 0,.slice none 0 0]⟩,
    ⟨66,2,.slice AC x.code.length c1,x.code.length,x.code.flatMap cE⟩,⟨5,1,.slice AD x.data.length c2,x.data.length,u8s x.data⟩]) :
  Owns W B (oRows g ⟨codK x 0,x.data,x.zero,x.stack,[],fixF x 0,[],[]⟩ ⟨⟨AC,c1⟩,⟨AD,c2⟩,⟨none,0⟩,⟨none,0⟩,⟨none,0⟩,⟨none,0⟩⟩ [⟨25,1,av,P.length,u32s P⟩]):=by
 rw [codK_0,show fixF x 0=[] from rfl]
 refine Owns.perm (nil4 h hB) fun cnt one k1 k2 k3=>?_
 have h9:=hc cnt one k1 k2 k3
 simp only [k1,k2,k3] at h9 ⊢
 rw [h9]
 simp only [oRows,objV,k1,k2,k3,List.length_nil,List.flatMap_nil,strV,List.map_nil]
 omega
set_option maxHeartbeats 16000000 in
theorem Object_any (x:ImgV) (s:ImgS) (w:World) (hx:ImgOk x) (hr:ImgR w w.heap.size x s) (hT:TabOk w):Calls Tryz.prog 10 #[.agg (imgV x s)] w (ObjIs x w):=by
 have HX:=hide_ hx
 have HR:=hide_ hr
 have HTAB:=hide_ hT
 obtain ⟨W1,hW1⟩:∃ W,W=(w.alloc (.cells (imgV x s) 28)).alloc (.cells z8 36):=⟨_,rfl⟩
 have HS1:=hide_ (show W1.heap.size=w.heap.size+2 by rw [hW1];simp)
 have HB1:=hide_ (show Below w.heap.size w W1 by rw [hW1];exact ((Below.refl _ _).alloc (Nat.le_refl _) _).alloc (by simp) _)
 have HK0:=hide_ (show Blk W1 w.heap.size 28 (imgV x s) by rw [hW1];exact (Blk.new w _ _).alloc _)
 have HK1:=hide_ (show Blk W1 (w.heap.size+1) 36 z8 by
  have h:=Blk.new (w.alloc (.cells (imgV x s) 28)) 36 z8
  rw [World.size_alloc] at h
  rw [hW1];exact h)
 have HAT:=hide_ (fun W (hb:Below W1.heap.size W1 W)=>img_cells (HK0.out.below hb (by have:=HS1.out;omega)))
 have HRES:=hide_ (fun W (hb:Below W1.heap.size W1 W)=>HK1.out.below hb (by have:=HS1.out;omega))
 have FIN:=hide_ (fun W (hb:Below W1.heap.size W1 W)=>show Below w.heap.size w W from HB1.out.trans (hb.mono (by have:=HS1.out;omega)))
 have HRR:=hide_ (fun W (hb:Below W1.heap.size W1 W)=>show ImgR W W.heap.size x s from (HR.out.below (FIN.out W hb)).more (by have:=hb.size;have:=HS1.out;omega))
 have BAD:=hide_ (fun W (e:Int) (h:objE x=e) (h0:e≠0) (hb:Below W1.heap.size W1 W)=>obj_no (w':=W.setRow (w.heap.size+1) z8) h h0 (below_setRow (FIN.out W hb) (by omega) _))
 have HCK:=hide_ (fun W (hb:Below W1.heap.size W1 W)=>iCheck_any x s W HX.out (HRR.out W hb))
 have HPL:=hide_ (fun W (hb:Below W1.heap.size W1 W) h=>places_any x s W HX.out (HRR.out W hb) h)
 clear HR hr hx hT HK0 HK1 HB1
 unfold imgV at hW1 HCK HPL ⊢
 obtain ⟨⟨cA,cc⟩,⟨jA,jc⟩,⟨dA,dc⟩,⟨nA,nc⟩⟩:=s
 dsimp only at hW1 HAT HRR HCK HPL ⊢
 unfold z8 at hW1
 have HBW:=hide_ (Below.refl W1.heap.size W1)
 go_enter Tryz.func10,Tryz.ntmps10
 go_upto_region 1 with (fail)
 rw [← hW1]
 clear hW1
 obtain ⟨f0,f1,f2,f3,f4,f5⟩:=HAT.out W1 HBW.out
 have CK:=hide_ (HCK.out W1 HBW.out)
 obtain ⟨v,hv⟩:∃ v,v=imgChk x:=⟨_,rfl⟩
 rw [← hv] at CK
 have HV:=hide_ hv
 clear hv HCK
 go_wp2_with fail
 refine CK.out.mono ?_
 rintro e w2 ⟨rfl,hb2⟩
 have HB2:=hide_ hb2
 clear hb2 f0 f1 f2 f3 f4 f5 HBW CK
 by_cases hv0:v=0
 ·subst hv0
  have hbd:=ic_bound HX.out HV.out.symm
  have HBD:=hide_ hbd
  have PL:=hide_ (HPL.out w2 HB2.out hbd.1)
  clear HPL hbd
  obtain ⟨f0,f1,f2,f3,f4,f5⟩:=HAT.out w2 HB2.out
  go_wp2_with fail
  refine PL.out.mono ?_
  rintro e w3 hpl
  unfold PlcIs at hpl
  by_cases hbg:begB x=true
  ·rw [if_pos hbg] at hpl
   obtain ⟨av,rfl,hO3,hb3⟩:=hpl
   have HO3:=hide_ (own_lo hO3 HB2.out.size)
   have HB3:=hide_ (HB2.out.trans (hb3.mono HB2.out.size))
   clear hO3 hb3 f0 f1 f2 f3 f4 f5 PL
   obtain ⟨aA,ac,rfl⟩:=OwnU.slice HO3.out
   obtain ⟨P,hP⟩:∃ P,P=plc x:=⟨_,rfl⟩
   rw [← hP] at HO3 ⊢
   have HP:=hide_ hP
   obtain ⟨f0,f1,f2,f3,f4,f5⟩:=HAT.out w3 HB3.out
   by_cases h4:4096<P.length
   ·have g4:(4096:Int)<(P.length:Int):=by omega
    have RS:=hide_ (HRES.out w3 HB3.out)
    have F:=hide_ (BAD.out w3 121 (oe_121 HV.out.symm hbg (by rw [← HP.out];exact h4)) (by decide) HB3.out)
    clear hbg hP f0 f1 f2 f3 f4 f5
    go_wp2_with (first | (refine wpList_store_row rfl 36 (.tmp 2) (.tmp 35) rfl _ z8 rfl rfl 36 z8 RS.out z8_sz rfl z8_one ?_))
    exact bodyPost_ret (v:=.tuple #[.agg z8,.int .i64 121]) (result_cell2 rfl _ _ _ (w.heap.size+1) z8 _ rfl rfl (run_loadVar_row _ _ _ _ _ _ _ (setRow_heap _ _ _ _ _ _ RS.out) Tryz.underlying36 rfl z8_sz)) rfl F.out
   ·have g4:¬ (4096:Int)<(P.length:Int):=by omega
    have HE0:=hide_ (oe_0 HV.out.symm hbg (by rw [← HP.out];exact h4))
    have HBG:=hide_ hbg
    clear hbg hP
    go_upto_region 9 with (fail)
    have HBD2:=hide_ (show x.code.length≤16384∧x.data.length≤65536 by
     have h1:=HBD.out.1.1
     have h2:=HBD.out.2.1
     have h3:=HX.out.zero.1
     have h4:=HX.out.stack.1
     unfold roomOf at h2
     omega)
    have HLC:=hide_ (fun W (hb:Below W1.heap.size W1 W)=>clone_code x.code cA cc W (HRR.out W hb).rc HBD2.out.1)
    have HLD:=hide_ (fun W (hb:Below W1.heap.size W1 W)=>clone_bytes x.data dA dc W (HRR.out W hb).rd HBD2.out.2)
    have HOW:=hide_ (And.intro (OwnU.owns HO3.out) HB3.out.size)
    have hlt0:w.heap.size<W1.heap.size:=by have:=HS1.out;omega
    have Y0:=hide_ (show (⟨x.code,x.data,x.zero,x.stack,[],[],[],[]⟩:ObjV)=⟨codK x 0,x.data,x.zero,x.stack,[],fixF x 0,[],[]⟩ by rw [codK_0];rfl)
    obtain ⟨n,hn⟩:∃ n,n=x.code.length:=⟨_,rfl⟩
    obtain ⟨nd,hnd⟩:∃ n,n=x.data.length:=⟨_,rfl⟩
    obtain ⟨z,hz⟩:∃ n,n=x.zero:=⟨_,rfl⟩
    obtain ⟨sk,hsk⟩:∃ n,n=x.stack:=⟨_,rfl⟩
    rw [← hn] at f0 HLC
    rw [← hnd] at f2 HLD
    rw [← hz] at f3
    rw [← hsk] at f4
    have HN:=hide_ (And.intro hn (And.intro hnd (And.intro hz hsk)))
    clear hn hnd hz hsk
    go_cut [7] from 16 (fun p wx=>∃ g AC c1 AD c2,p=.pointer (some ⟨g,0,none⟩)∧Hid (Owns wx W1.heap.size (oRows g ⟨codK x 0,x.data,x.zero,x.stack,[],fixF x 0,[],[]⟩ ⟨⟨AC,c1⟩,⟨AD,c2⟩,⟨none,0⟩,⟨none,0⟩,⟨none,0⟩,⟨none,0⟩⟩ [⟨25,1,.slice aA P.length ac,P.length,u32s P⟩]))∧Hid (Below W1.heap.size W1 wx))
    case first =>
     go_region_held3 (fun W=>W.cell? ⟨w.heap.size,0,none⟩=some (.slice cA n cc)∧W.cell? ⟨w.heap.size,2,none⟩=some (.slice dA nd dc)∧W.cell? ⟨w.heap.size,3,none⟩=some (.int .u32 z)∧W.cell? ⟨w.heap.size,4,none⟩=some (.int .u32 sk)∧Below W1.heap.size W1 W)
      (first | (with_reducible exact kp0 f0 f2 f3 f4 HB3.out) | (with_reducible exact kpU hlt0 (by assumption) hb7) | (with_reducible exact kpU hlt0 (by assumption) ((Below.refl _ _).alloc (Nat.le_refl _) _)) | (with_reducible exact kpB hlt0 (by assumption) (below_swap HOW.out.2 _ _)) | (with_reducible exact kpB hlt0 (by assumption) (below_setRow (Below.refl _ _) HBX.out.2 _)))
      (first
        | (go_at_call 38;refine (HLC.out _ (kpE (by assumption))).mono ?_;rintro e w7 ⟨v7,rfl,ho7,hb7⟩;(first | (with_reducible have HOW:=hide_ (lent_push (lent_drew HOW.out) hb7 ho7);try (have HBX:=hide_ (box_below HBX.out hb7))) | (with_reducible have HOW:=hide_ (lent_push HOW.out hb7 ho7);try (have HBX:=hide_ (box_below HBX.out hb7))) | (with_reducible have HBX:=hide_ (box_below (box_new (lent_drew HOW.out)) hb7);have HOW:=hide_ (lent_push (lent_box (lent_drew HOW.out)) hb7 ho7)) | (with_reducible have HBX:=hide_ (box_below (box_drew (box_new HOW.out)) hb7);have HOW:=hide_ (lent_push (lent_drew (lent_box HOW.out)) hb7 ho7)) | (with_reducible have HBX:=hide_ (box_below (box_new HOW.out) hb7);have HOW:=hide_ (lent_push (lent_box HOW.out) hb7 ho7)));obtain ⟨AC,c1,rfl,hc1,hd7⟩:=ownsRow_slice ho7;clear ho7 hd7)
        | (go_at_call 39;refine (HLD.out _ (kpE (by assumption))).mono ?_;rintro e w7 ⟨v7,rfl,ho7,hb7⟩;(first | (with_reducible have HOW:=hide_ (lent_push (lent_drew HOW.out) hb7 ho7);try (have HBX:=hide_ (box_below HBX.out hb7))) | (with_reducible have HOW:=hide_ (lent_push HOW.out hb7 ho7);try (have HBX:=hide_ (box_below HBX.out hb7))) | (with_reducible have HBX:=hide_ (box_below (box_new (lent_drew HOW.out)) hb7);have HOW:=hide_ (lent_push (lent_box (lent_drew HOW.out)) hb7 ho7)) | (with_reducible have HBX:=hide_ (box_below (box_drew (box_new HOW.out)) hb7);have HOW:=hide_ (lent_push (lent_drew (lent_box HOW.out)) hb7 ho7)) | (with_reducible have HBX:=hide_ (box_below (box_new HOW.out) hb7);have HOW:=hide_ (lent_push (lent_box HOW.out) hb7 ho7)));obtain ⟨AD,c2,rfl,hc2,hd7⟩:=ownsRow_slice ho7;clear ho7 hd7)
        | (have HST:=box_st (cs:=#[.slice AC n c1,.slice AD nd c2,.int .u32 z,.int .u32 sk,.slice none 0 0,.slice none 0 0,.slice none 0 0,.slice none 0 0]) HBX.out rfl (by simp [Value.oneCell']);simp [go_sem] at HST;rw [HST];go_simp))
     all_goals
      go_wp2
      go_meet
      obtain ⟨rfl,rfl,rfl,rfl⟩:=HN.out
      have hB:=(kpE (by assumption):Below W1.heap.size W1 _).size
      first
       | exact ⟨_,AC,c1,AD,c2,rfl,hide_ (start_rows (Owns.box8 HOW.out (.slice AC x.code.length c1) (.slice AD x.data.length c2) (.int .u32 x.zero) (.int .u32 x.stack) (.slice none 0 0) (.slice none 0 0) (.slice none 0 0) (.slice none 0 0)) hB (fun cnt one k1 k2 k3=>by simp only [k1,k2,k3,List.nil_append,List.cons_append,List.set] <;> omega)),hide_ (kpE (by assumption))⟩
       | exact ⟨_,AC,c1,AD,c2,rfl,hide_ (start_rows (Owns.re8 (e:=36) HOW.out.1 (i:=1) rfl (.slice AC x.code.length c1) (.slice AD x.data.length c2) (.int .u32 x.zero) (.int .u32 x.stack) (.slice none 0 0) (.slice none 0 0) (.slice none 0 0) (.slice none 0 0)) hB (fun cnt one k1 k2 k3=>by simp only [k1,k2,k3,List.nil_append,List.cons_append,List.set] <;> omega)),hide_ (kpE (by assumption))⟩
       | exact ⟨_,AC,c1,AD,c2,rfl,hide_ (start_rows (Owns.re8 (e:=36) HOW.out.1 (i:=2) rfl (.slice AC x.code.length c1) (.slice AD x.data.length c2) (.int .u32 x.zero) (.int .u32 x.stack) (.slice none 0 0) (.slice none 0 0) (.slice none 0 0) (.slice none 0 0)) hB (fun cnt one k1 k2 k3=>by simp only [k1,k2,k3,List.nil_append,List.cons_append,List.set] <;> omega)),hide_ (kpE (by assumption))⟩
       | exact ⟨_,AC,c1,AD,c2,rfl,hide_ (start_rows (Owns.re8 (e:=36) HOW.out.1 (i:=3) rfl (.slice AC x.code.length c1) (.slice AD x.data.length c2) (.int .u32 x.zero) (.int .u32 x.stack) (.slice none 0 0) (.slice none 0 0) (.slice none 0 0) (.slice none 0 0)) hB (fun cnt one k1 k2 k3=>by simp only [k1,k2,k3,List.nil_append,List.cons_append,List.set] <;> omega)),hide_ (kpE (by assumption))⟩
    case rest =>
     clear HO3 HB3 HOW f0 f1 f2 f3 f4 f5 HLC HLD Y0 HN n nd z sk
     obtain ⟨g,AC,c1,AD,c2,rfl,HO,HB⟩:=hcut
     obtain ⟨l1,l2,l4⟩:=HBD.out.1
     have RISE:=hide_ (show P.Pairwise (· < ·) by rw [HP.out];exact sortC_rise _)
     have PMEM:=hide_ (fun (v:Int) (h:v ∈ allP x)=>show ∃ k,P[k]?=some v by rw [HP.out];exact List.mem_iff_getElem?.1 ((sortC_mem _ _).2 h))
     have PBD:=hide_ (fun (k:Nat) (v:Int) (h:P[k]?=some v)=>show 0≤v∧v<4294967296 by
      have h1:=List.mem_of_getElem? h
      rw [HP.out] at h1
      have h2:=allP_le HX.out HBG.out v ((sortC_mem _ _).1 h1)
      omega)
     have HNM:=hide_ (fun (W:World) (y:ObjV) (s:ObjS) (k:Nat) (v:Int) (h:P[k]?=some v) (hO:Owns W W1.heap.size (oRows g y s [⟨25,1,.slice aA P.length ac,P.length,u32s P⟩])) (hb:Below W1.heap.size W1 W) =>
      lnamed_any P aA ac k v W (Reads.of_own (hO.at_ (i:=7) rfl)) (by omega) RISE.out h (PBD.out k v h).1 (PBD.out k v h).2 (HTAB.out.below (FIN.out W hb)))
     have HPC:=hide_ (fun (W:World) (y:ObjV) (s:ObjS) (hO:Owns W W1.heap.size (oRows g y s [⟨25,1,.slice aA P.length ac,P.length,u32s P⟩]))=>(Reads.of_own (hO.at_ (i:=7) rfl)).2)
     clear HBD2
     go_wp2_with fail
     go_loopw [49] (fun i wr=>∃ (k:Nat) (sl:SL),k≤P.length∧i=.int .i64 k∧Hid (Owns wr W1.heap.size (oRows g ⟨codK x 0,x.data,x.zero,x.stack,(P.take k).map labP,fixF x 0,[],[]⟩ ⟨⟨AC,c1⟩,⟨AD,c2⟩,sl,⟨none,0⟩,⟨none,0⟩,⟨none,0⟩⟩ [⟨25,1,.slice aA P.length ac,P.length,u32s P⟩]))∧Hid (Below W1.heap.size W1 wr)) (fun i _=>P.length - (intOf i).toNat)
     case atStart=>exact ⟨0,⟨none,0⟩,Nat.zero_le _,rfl,HO,HB⟩
     case round =>
      clear HO HB
      obtain ⟨k,sl,hk,rfl,HO,HB⟩:=hrel
      by_cases hlt:k<P.length
      ·obtain ⟨p,hp⟩:∃ p,P[k]?=some p:=⟨_,List.getElem?_eq_getElem hlt⟩
       obtain ⟨⟨_,_,_,_,b4,_,_,_⟩,hg0,hg1⟩:=oR_box HO.out
       dsimp only at b4
       have hLL:((P.take k).map labP).length=k:=by rw [List.length_map,List.length_take];omega
       have HLL:=hide_ (show ((P.take k).map labP).length≤1048576 by omega)
       rw [hLL] at b4
       have HL2:=hide_ hLL
       clear hLL
       obtain ⟨ad,rfl,hbk,hcell⟩:=HPC.out wr _ _ HO.out (by omega)
       have q0:=hcell k _ (u32s_get hp)
       have NEXT:=hide_ (take_at labP hp)
       have HC:=hide_ (fun W (hO:Owns W W1.heap.size (oRows g ⟨codK x 0,x.data,x.zero,x.stack,(P.take k).map labP,fixF x 0,[],[]⟩ ⟨⟨AC,c1⟩,⟨AD,c2⟩,sl,⟨none,0⟩,⟨none,0⟩,⟨none,0⟩⟩ [⟨25,1,.slice (some ad) P.length ac,P.length,u32s P⟩])) hb=>HNM.out W _ _ k p hp hO hb)
       clear hcell hp
       go_upto_region 13 with (fail)
       go_region_law (first
        | (refine stp_lab (by rfl) _ _ (by rfl) HOW.out HBW.out.size (by rw [HL2.out];rfl) (labP p) (by rfl) HLL.out ?_;intro A9 c9 w10 hO10 h10 f10 z10 hb10;dsimp only at hO10 h10 hb10;rw [HL2.out] at hO10 h10 hb10)
        | (go_simp;go_at_call 40;refine (HC.out _ HO.out.drew HB.out.drew).mono ?_;rintro e w9 ⟨rfl,hb9⟩;have HOW:=hide_ (HO.out.drew.below hb9);have HBW:=hide_ (HB.out.drew.trans (hb9.mono HB.out.size));have b4w:=(hb9.cell (p:=⟨g,4,none⟩) hg1).trans b4;have z9:=Nat.lt_of_lt_of_le hg1 hb9.size))
       all_goals
        go_wp2
        go_roundw
        case rel=>exact ⟨k+1,⟨A9,c9⟩,by omega,by go_num,hide_ (by rw [NEXT.out];exact hO10),hide_ (HBW.out.trans hb10)⟩
        case measure=>simp [intOf] <;> omega
      ·obtain rfl:k=P.length:=by omega
       have HO2:=hide_ (show Owns wr W1.heap.size (oRows g ⟨codK x 0,x.data,x.zero,x.stack,P.map labP,fixF x 0,[],[]⟩ ⟨⟨AC,c1⟩,⟨AD,c2⟩,sl,⟨none,0⟩,⟨none,0⟩,⟨none,0⟩⟩ [⟨25,1,.slice aA P.length ac,P.length,u32s P⟩]) by
        have h9:=HO.out
        rw [List.take_length] at h9
        exact h9)
       clear HO
       obtain ⟨f0,f1,f2,f3,f4,f5⟩:=HAT.out wr HB.out
       have hbz:w.heap.size<wr.heap.size:=by have:=HB.out.size;have:=HS1.out;omega
       go_wp2_with fail
       obtain ⟨wo,rfl⟩:∃ wo:World,wo=wr:=⟨_,rfl⟩
       go_loopw [67] (fun i wr=>∃ (k:Nat) (sf:SL),k≤x.code.length∧i=.int .i64 k∧Hid (Owns wr W1.heap.size (oRows g ⟨codK x k,x.data,x.zero,x.stack,P.map labP,fixF x k,[],[]⟩ ⟨⟨AC,c1⟩,⟨AD,c2⟩,sl,sf,⟨none,0⟩,⟨none,0⟩⟩ [⟨25,1,.slice aA P.length ac,P.length,u32s P⟩]))∧Hid (Below W1.heap.size W1 wr)) (fun i _=>x.code.length - (intOf i).toNat)
       case atStart=>exact ⟨0,⟨none,0⟩,Nat.zero_le _,rfl,HO2,HB⟩
       case round =>
        clear HO2 HB f0 f1 f2 f3 f4 f5 hbz
        obtain ⟨k,sf,hk,rfl,HO,HB⟩:=hrel
        obtain ⟨f0,f1,f2,f3,f4,f5⟩:=HAT.out wr HB.out
        have hbz:w.heap.size<wr.heap.size:=by have:=HB.out.size;have:=HS1.out;omega
        by_cases hlt:k<x.code.length
        ·obtain ⟨t,ht⟩:∃ t,x.code[k]?=some t:=⟨_,List.getElem?_eq_getElem hlt⟩
         obtain ⟨_,ar0,ar1⟩:=HX.out.code t (List.mem_of_getElem? ht)
         obtain ⟨_,ad,rfl,hbk,p0,p1⟩:=el_cells cE_len (HRR.out wr HB.out).rc (by omega) ht
         have q0:=p0 _ rfl
         have q1:=p1 1 _ (by omega) rfl
         have CNO:=hide_ (fun h=>codK_no ht h)
         have CYES:=hide_ (fun h=>codK_yes ht h)
         have CGET:=hide_ (codK_get ht)
         have FNEXT:=hide_ (fixF_at ht)
         have HAR:=hide_ (fun (h:stB x.code.length t=true)=>PMEM.out t.2 (by
          unfold allP
          exact List.mem_append_right _ (List.mem_map_of_mem (List.mem_filter.2 ⟨List.mem_of_getElem? ht,h⟩))))
         obtain ⟨op,arg⟩:=t
         dsimp only at q0 q1 ar0 ar1 CYES FNEXT HAR
         have HST:=hide_ (fun W=>static_any op arg x.code.length W ar0 ar1 (by omega))
         obtain ⟨b,hb⟩:∃ b,b=stB x.code.length (op,arg):=⟨_,rfl⟩
         rw [← hb] at HST FNEXT HAR CNO CYES
         clear hb p0 p1 ht
         have HBA:=hide_ (HB.out.alloc HB.out.size (.cells #[.int .u8 op,.int .u32 arg] 66))
         have e1:(wr.alloc (.cells #[.int .u8 op,.int .u32 arg] 66)).cell? ⟨wr.heap.size,1,none⟩=some (.int .u32 arg):=by simp
         have HGZ:=hide_ (oR_box HO.out).2.2
         go_wp2_with fail
         refine (HST.out _).mono ?_
         rintro e w3 ⟨rfl,hb3⟩
         have e1:=(hb3.cell (p:=⟨wr.heap.size,1,none⟩) (by simp)).trans e1
         have ez:wr.heap.size<w3.heap.size:=by have:=hb3.size;simp at this;omega
         have HO3:=hide_ ((HO.out.alloc (.cells #[.int .u8 op,.int .u32 arg] 66)).below hb3)
         have HB3:=hide_ (HBA.out.trans (hb3.mono HBA.out.size))
         clear hb3 f0 f1 f2 f3 f4 f5 q0 q1 HB HBA
         cases b with
         | false =>
          go_wp2
          go_roundw
          case rel=>exact ⟨k+1,sf,by omega,by go_num,hide_ (by have h8:=FNEXT.out;simp only [Bool.false_eq_true,if_false,List.append_nil] at h8;rw [h8,CNO.out (by simp)];exact HO3.out),HB3⟩
          case measure=>simp [intOf] <;> omega
         | true =>
          obtain ⟨j,hj⟩:=HAR.out (by simp)
          have hown:=HO3.out.at_ (i:=1) rfl
          dsimp only at hown
          rw [codK_len] at hown
          obtain ⟨gc,cc1,hgc⟩:=ownsRow_some hown (by omega)
          injection hgc with hgc _ hcc
          subst hgc hcc
          have HGC:=hide_ (show gc<wr.heap.size from (HO.out.base (i:=1) (e:=66) (size:=2) (g:=gc) rfl).2)
          obtain ⟨⟨b0,_,_,_,_,b5,_,_⟩,hg0,hg1⟩:=oR_box HO3.out
          dsimp only at b0 b5
          rw [codK_len] at b0
          have k1:w3.cell? ⟨gc,k * 2+1,none⟩=some (.int .u32 arg):=HO3.out.cell (i:=1) (e:=66) (size:=2) rfl (enc_get cE_len _ k _ CGET.out 1 _ rfl)
          have k2:w3.frozen? ⟨gc,k * 2+1,none⟩=false:=HO3.out.frozen (i:=1) (e:=66) (size:=2) rfl _
          have k3:gc<w3.heap.size:=(HO3.out.base (i:=1) (e:=66) (size:=2) rfl).2
          have HBC:=hide_ (HO3.out.base (i:=1) (e:=66) (size:=2) (g:=gc) rfl).1
          obtain ⟨w4,hw4⟩:∃ W,W=w3.setCell ⟨gc,k * 2+1,none⟩ (.int .u32 0):=⟨_,rfl⟩
          have HO4:=hide_ (show Owns w4 W1.heap.size (oRows g ⟨codK x (k+1),x.data,x.zero,x.stack,P.map labP,fixF x k,[],[]⟩ ⟨⟨some ⟨gc,0,none⟩,c1⟩,⟨AD,c2⟩,sl,sf,⟨none,0⟩,⟨none,0⟩⟩ [⟨25,1,.slice aA P.length ac,P.length,u32s P⟩]) by
           rw [hw4,CYES.out (by simp)]
           exact oR_code rfl HO3.out CGET.out)
          have HB4:=hide_ (show Below W1.heap.size W1 w4 by rw [hw4];exact HB3.out.setCell (p:=⟨gc,k * 2+1,none⟩) HBC.out _)
          have e4:w4.cell? ⟨wr.heap.size,1,none⟩=some (.int .u32 arg):=by
           rw [hw4]
           exact (World.cell?_setCell_other w3 _ ⟨wr.heap.size,1,none⟩ _ (fun h=>by
            have h9:gc=wr.heap.size:=by injection h
            have:=HGC.out
            omega)).trans e1
          have hs4:w4.heap.size=w3.heap.size:=by rw [hw4];simp
          have ez4:wr.heap.size<w4.heap.size:=by omega
          have HEZ:=hide_ ez4
          have HW4:=hide_ hs4
          go_upto_region 20 with (fail)
          rw [← hw4]
          clear hw4 hs4 hown b0 b5 k1 k2 k3 e1 ez HO3 HO hg0 hg1
          obtain ⟨⟨_,_,_,_,_,b5,_,_⟩,hg0,hg1⟩:=oR_box HO4.out
          dsimp only at b5
          have HML:=hide_ (show (fixF x k).length≤1048576 by
           have:=fixF_len x k
           omega)
          have hwk:IntKind.u32.wrap (k:Int)=(k:Int):=by rw [IntKind.wrap_u32];omega
          have HC:=hide_ (fun W (hO:Owns W W1.heap.size (oRows g ⟨codK x (k+1),x.data,x.zero,x.stack,P.map labP,fixF x k,[],[]⟩ ⟨⟨some ⟨gc,0,none⟩,c1⟩,⟨AD,c2⟩,sl,sf,⟨none,0⟩,⟨none,0⟩⟩ [⟨25,1,.slice aA P.length ac,P.length,u32s P⟩])) hb=>HNM.out W _ _ j arg hj hO hb)
          clear hj
          go_region_law (first
           | (refine stp_fix (by rfl) _ _ (by rfl) HOW.out HBW.out.size (by rfl) ⟨1,k,natS arg,0⟩ (by rfl) HML.out ?_;intro A9 c9 w10 hO10 h10 f10 z10 hb10;dsimp only at hO10 h10 hb10)
           | (go_simp;go_at_call 40;refine (HC.out _ HO4.out.drew HB4.out.drew).mono ?_;rintro e w9 ⟨rfl,hb9⟩;have HOW:=hide_ (HO4.out.drew.below hb9);have HBW:=hide_ (HB4.out.drew.trans (hb9.mono HB4.out.size));have b5w:=(hb9.cell (p:=⟨g,5,none⟩) hg1).trans b5;have e9:=(hb9.cell (p:=⟨wr.heap.size,1,none⟩) HEZ.out).trans e4;have z9:=Nat.lt_of_lt_of_le hg1 hb9.size;have y9:=Nat.lt_of_lt_of_le HEZ.out hb9.size))
          all_goals
           go_wp2
           go_roundw
           case rel=>exact ⟨k+1,⟨A9,c9⟩,by omega,by go_num,hide_ (by have h8:=FNEXT.out;simp only [if_true] at h8;rw [h8];exact hO10),hide_ (HBW.out.trans hb10)⟩
           case measure=>simp [intOf] <;> omega
        ·obtain rfl:k=x.code.length:=by omega
         have HO2:=hide_ (show Owns wr W1.heap.size (oRows g ⟨codK x x.code.length,x.data,x.zero,x.stack,P.map labP,fixF x x.code.length,(x.jumps.take 0).map natS,[]⟩ ⟨⟨AC,c1⟩,⟨AD,c2⟩,sl,sf,⟨none,0⟩,⟨none,0⟩⟩ [⟨25,1,.slice aA P.length ac,P.length,u32s P⟩]) from HO.out)
         clear HO
         obtain ⟨C,hC⟩:∃ C,C=codK x x.code.length:=⟨_,rfl⟩
         obtain ⟨F,hF⟩:∃ F,F=fixF x x.code.length:=⟨_,rfl⟩
         rw [← hC,← hF] at HO2
         have HCF:=hide_ (And.intro hC hF)
         clear hC hF
         go_wp2_with fail
         obtain ⟨wo2,rfl⟩:∃ wo:World,wo=wr:=⟨_,rfl⟩
         go_loopw [98] (fun i wr=>∃ (k:Nat) (st:SL),k≤x.jumps.length∧i=.int .i64 k∧Hid (Owns wr W1.heap.size (oRows g ⟨C,x.data,x.zero,x.stack,P.map labP,F,(x.jumps.take k).map natS,[]⟩ ⟨⟨AC,c1⟩,⟨AD,c2⟩,sl,sf,st,⟨none,0⟩⟩ [⟨25,1,.slice aA P.length ac,P.length,u32s P⟩]))∧Hid (Below W1.heap.size W1 wr)) (fun i _=>x.jumps.length - (intOf i).toNat)
         case atStart=>exact ⟨0,⟨none,0⟩,Nat.zero_le _,rfl,HO2,HB⟩
         case round =>
          clear HO2 HB f0 f1 f2 f3 f4 f5 hbz
          obtain ⟨k,st,hk,rfl,HO,HB⟩:=hrel
          by_cases hlt:k<x.jumps.length
          ·obtain ⟨p,hp⟩:∃ p,x.jumps[k]?=some p:=⟨_,List.getElem?_eq_getElem hlt⟩
           obtain ⟨⟨_,_,_,_,_,_,b6,_⟩,hg0,hg1⟩:=oR_box HO.out
           dsimp only at b6
           have hLL:((x.jumps.take k).map natS).length=k:=by rw [List.length_map,List.length_take];omega
           have HLL:=hide_ (show ((x.jumps.take k).map natS).length≤1048576 by omega)
           rw [hLL] at b6
           have HL2:=hide_ hLL
           clear hLL
           obtain ⟨ad,rfl,hbk,hcell⟩:=(HRR.out wr HB.out).rj.2 (by omega)
           have q0:=hcell k _ (u32s_get hp)
           have NEXT:=hide_ (take_at natS hp)
           obtain ⟨j,hj⟩:=PMEM.out p (by unfold allP;exact List.mem_append_left _ (List.mem_append_left _ (List.mem_of_getElem? hp)))
           have HC:=hide_ (fun W (hO:Owns W W1.heap.size (oRows g ⟨C,x.data,x.zero,x.stack,P.map labP,F,(x.jumps.take k).map natS,[]⟩ ⟨⟨AC,c1⟩,⟨AD,c2⟩,sl,sf,st,⟨none,0⟩⟩ [⟨25,1,.slice aA P.length ac,P.length,u32s P⟩])) hb=>HNM.out W _ _ j p hj hO hb)
           clear hcell hp hj
           go_upto_region 25 with (fail)
           go_region_law (first
            | (refine stp_tgt (by rfl) _ _ (by rfl) HOW.out HBW.out.size (by rw [HL2.out];rfl) (natS p) (by rfl) HLL.out ?_;intro A9 c9 w10 hO10 h10 f10 z10 hb10;dsimp only at hO10 h10 hb10;rw [HL2.out] at hO10 h10 hb10)
            | (go_simp;go_at_call 40;refine (HC.out _ HO.out.drew HB.out.drew).mono ?_;rintro e w9 ⟨rfl,hb9⟩;have HOW:=hide_ (HO.out.drew.below hb9);have HBW:=hide_ (HB.out.drew.trans (hb9.mono HB.out.size));have b6w:=(hb9.cell (p:=⟨g,6,none⟩) hg1).trans b6;have z9:=Nat.lt_of_lt_of_le hg1 hb9.size))
           all_goals
            go_wp2
            go_roundw
            case rel=>exact ⟨k+1,⟨A9,c9⟩,by omega,by go_num,hide_ (by rw [NEXT.out];exact hO10),hide_ (HBW.out.trans hb10)⟩
            case measure=>simp [intOf] <;> omega
          ·obtain rfl:k=x.jumps.length:=by omega
           have HO2:=hide_ (show Owns wr W1.heap.size (oRows g ⟨C,x.data,x.zero,x.stack,P.map labP,F,x.jumps.map natS,(x.names.take 0).map entP⟩ ⟨⟨AC,c1⟩,⟨AD,c2⟩,sl,sf,st,⟨none,0⟩⟩ [⟨25,1,.slice aA P.length ac,P.length,u32s P⟩]) by
            have h9:=HO.out
            rw [List.take_length] at h9
            exact h9)
           clear HO
           obtain ⟨f0,f1,f2,f3,f4,f5⟩:=HAT.out wr HB.out
           have hbz:w.heap.size<wr.heap.size:=by have:=HB.out.size;have:=HS1.out;omega
           go_wp2_with fail
           obtain ⟨wo3,rfl⟩:∃ wo:World,wo=wr:=⟨_,rfl⟩
           go_loopw [114] (fun i wr=>∃ (k:Nat) (se:SL),k≤x.names.length∧i=.int .i64 k∧Hid (Owns wr W1.heap.size (oRows g ⟨C,x.data,x.zero,x.stack,P.map labP,F,x.jumps.map natS,(x.names.take k).map entP⟩ ⟨⟨AC,c1⟩,⟨AD,c2⟩,sl,sf,st,se⟩ [⟨25,1,.slice aA P.length ac,P.length,u32s P⟩]))∧Hid (Below W1.heap.size W1 wr)) (fun i _=>x.names.length - (intOf i).toNat)
           case atStart=>exact ⟨0,⟨none,0⟩,Nat.zero_le _,rfl,HO2,HB⟩
           case round =>
            clear HO2 HB f0 f1 f2 f3 f4 f5 hbz
            obtain ⟨k,se,hk,rfl,HO,HB⟩:=hrel
            by_cases hlt:k<x.names.length
            ·obtain ⟨t,ht⟩:∃ t,x.names[k]?=some t:=⟨_,List.getElem?_eq_getElem hlt⟩
             obtain ⟨_,ad,rfl,hbk,p0,p1⟩:=el_cells xE_len (HRR.out wr HB.out).rn (by omega) ht
             have q0:=p0 _ rfl
             have q1:=p1 1 _ (by omega) rfl
             have NEXT:=hide_ (take_at entP ht)
             obtain ⟨j,hj⟩:=PMEM.out t.at_ (by unfold allP;exact List.mem_append_left _ (List.mem_append_right _ (List.mem_map_of_mem (f:=(·.at_)) (List.mem_of_getElem? ht))))
             obtain ⟨nm,pa⟩:=t
             dsimp only at q0 q1 NEXT hj
             have hLL:((x.names.take k).map entP).length=k:=by rw [List.length_map,List.length_take];omega
             have HLL:=hide_ (show ((x.names.take k).map entP).length≤1048576 by omega)
             have HL2:=hide_ hLL
             clear p0 p1 ht hLL
             obtain ⟨wa,hwa⟩:∃ W,W=wr.alloc (.cells #[.string nm,.int .u32 pa] 44):=⟨_,rfl⟩
             have HOA:=hide_ (show Owns wa W1.heap.size (oRows g ⟨C,x.data,x.zero,x.stack,P.map labP,F,x.jumps.map natS,(x.names.take k).map entP⟩ ⟨⟨AC,c1⟩,⟨AD,c2⟩,sl,sf,st,se⟩ [⟨25,1,.slice aA P.length ac,P.length,u32s P⟩]) by rw [hwa];exact HO.out.alloc _)
             have HBA:=hide_ (show Below W1.heap.size W1 wa by rw [hwa];exact HB.out.alloc HB.out.size _)
             have e0:wa.cell? ⟨wr.heap.size,0,none⟩=some (.string nm):=by rw [hwa];simp
             have e1:wa.cell? ⟨wr.heap.size,1,none⟩=some (.int .u32 pa):=by rw [hwa];simp
             have ez:wr.heap.size<wa.heap.size:=by rw [hwa];simp
             have HEZ:=hide_ ez
             go_upto_region 30 with (fail)
             rw [← hwa]
             clear hwa q0 q1 HO HB
             obtain ⟨⟨_,_,_,_,_,_,_,b7⟩,hg0,hg1⟩:=oR_box HOA.out
             dsimp only at b7
             rw [HL2.out] at b7
             have HC:=hide_ (fun W (hO:Owns W W1.heap.size (oRows g ⟨C,x.data,x.zero,x.stack,P.map labP,F,x.jumps.map natS,(x.names.take k).map entP⟩ ⟨⟨AC,c1⟩,⟨AD,c2⟩,sl,sf,st,se⟩ [⟨25,1,.slice aA P.length ac,P.length,u32s P⟩])) hb=>HNM.out W _ _ j pa hj hO hb)
             clear hj
             go_region_law (first
              | (refine stp_ent (by rfl) _ _ (by rfl) HOW.out HBW.out.size (by rw [HL2.out];rfl) ⟨nm,natS pa⟩ (by rfl) HLL.out ?_;intro A9 c9 w10 hO10 h10 f10 z10 hb10;dsimp only at hO10 h10 hb10;rw [HL2.out] at hO10 h10 hb10)
              | (go_simp;go_at_call 40;refine (HC.out _ HOA.out.drew HBA.out.drew).mono ?_;rintro e w9 ⟨rfl,hb9⟩;have HOW:=hide_ (HOA.out.drew.below hb9);have HBW:=hide_ (HBA.out.drew.trans (hb9.mono HBA.out.size));have b7w:=(hb9.cell (p:=⟨g,7,none⟩) hg1).trans b7;have e9:=(hb9.cell (p:=⟨wr.heap.size,0,none⟩) HEZ.out).trans e0;have e8:=(hb9.cell (p:=⟨wr.heap.size,1,none⟩) HEZ.out).trans e1;have z9:=Nat.lt_of_lt_of_le hg1 hb9.size;have y9:=Nat.lt_of_lt_of_le HEZ.out hb9.size))
             all_goals
              go_wp2
              go_roundw
              case rel=>exact ⟨k+1,⟨A9,c9⟩,by omega,by go_num,hide_ (by rw [NEXT.out];exact hO10),hide_ (HBW.out.trans hb10)⟩
              case measure=>simp [intOf] <;> omega
            ·obtain rfl:k=x.names.length:=by omega
             have HO2:=hide_ (show Owns wr W1.heap.size (oRows g (objO x) ⟨⟨AC,c1⟩,⟨AD,c2⟩,sl,sf,st,se⟩ [⟨25,1,.slice aA P.length ac,P.length,u32s P⟩]) by
              have h9:=HO.out
              rw [List.take_length,HCF.out.1,HCF.out.2,codK_all] at h9
              unfold objO
              rw [← HP.out]
              exact h9)
             obtain ⟨⟨b0,b1,b2,b3,b4,b5,b6,b7⟩,hg0,hg1⟩:=oR_box HO2.out
             have RS:=hide_ (HRES.out wr HB.out)
             have FF:=hide_ (show ObjIs x w (.returned (.tuple #[.agg (objV (objO x) ⟨⟨AC,c1⟩,⟨AD,c2⟩,sl,sf,st,se⟩),.int .i64 0])) (wr.setRow (w.heap.size+1) (objV (objO x) ⟨⟨AC,c1⟩,⟨AD,c2⟩,sl,sf,st,se⟩)) from obj_yes HE0.out HO2.out (by have:=HS1.out;omega) (by have:=HS1.out;omega) (FIN.out wr HB.out) rfl)
             have OS:=hide_ (show (Tryz.prog.info? 36).map (·.size)=some (objV (objO x) ⟨⟨AC,c1⟩,⟨AD,c2⟩,sl,sf,st,se⟩).size from z8_sz)
             have OO:=hide_ (show (objV (objO x) ⟨⟨AC,c1⟩,⟨AD,c2⟩,sl,sf,st,se⟩).all (·.oneCell')=true by simp [objV,Value.oneCell'])
             dsimp only at b0 b1 b2 b3 b4 b5 b6 b7
             clear HO HO2
             go_wp2_with (first | (refine wpList_store_row rfl 36 (.tmp 2) (.tmp 131) rfl _ (objV (objO x) ⟨⟨AC,c1⟩,⟨AD,c2⟩,sl,sf,st,se⟩) rfl rfl 36 z8 RS.out OS.out rfl OO.out ?_))
             exact bodyPost_ret (v:=.tuple #[.agg (objV (objO x) ⟨⟨AC,c1⟩,⟨AD,c2⟩,sl,sf,st,se⟩),.int .i64 0]) (result_cell2 rfl _ _ _ (w.heap.size+1) (objV (objO x) ⟨⟨AC,c1⟩,⟨AD,c2⟩,sl,sf,st,se⟩) _ rfl rfl (run_loadVar_row _ _ _ _ _ _ _ (setRow_heap _ _ _ _ _ _ RS.out) Tryz.underlying36 rfl OS.out)) rfl FF.out
  ·have hb0:begB x=false:=by simpa using hbg
   rw [if_neg hbg] at hpl
   obtain ⟨rfl,hb3⟩:=hpl
   have HB3:=hide_ (HB2.out.trans (hb3.mono HB2.out.size))
   have RS:=hide_ (HRES.out w3 HB3.out)
   have F:=hide_ (BAD.out w3 120 (oe_120 HV.out.symm hb0) (by decide) HB3.out)
   clear hb3 f0 f1 f2 f3 f4 f5 PL hb0 hbg
   go_wp2_with (first | (refine wpList_store_row rfl 36 (.tmp 2) (.tmp 30) rfl _ z8 rfl rfl 36 z8 RS.out z8_sz rfl z8_one ?_))
   exact bodyPost_ret (v:=.tuple #[.agg z8,.int .i64 120]) (result_cell2 rfl _ _ _ (w.heap.size+1) z8 _ rfl rfl (run_loadVar_row _ _ _ _ _ _ _ (setRow_heap _ _ _ _ _ _ RS.out) Tryz.underlying36 rfl z8_sz)) rfl F.out
 ·have hv2:(v != 0)=true:=by simpa using hv0
  have RS:=hide_ (HRES.out w2 HB2.out)
  have F:=hide_ (BAD.out w2 v (by rw [HV.out];exact oe_chk (by rw [← HV.out];exact hv0)) hv0 HB2.out)
  go_wp2_with (first | (refine wpList_store_row rfl 36 (.tmp 2) (.tmp 20) rfl _ z8 rfl rfl 36 z8 RS.out z8_sz rfl z8_one ?_))
  exact bodyPost_ret (v:=.tuple #[.agg z8,.int .i64 v]) (result_cell2 rfl _ _ _ (w.heap.size+1) z8 _ rfl rfl (run_loadVar_row _ _ _ _ _ _ _ (setRow_heap _ _ _ _ _ _ RS.out) Tryz.underlying36 rfl z8_sz)) rfl F.out
end Go.Proofs.YtikbegmodacopaaGreatDoor
namespace Go.Proofs.YtikbegmodacopaaGreatDoor
open Go.RowKit Go.PlainAid Go.BigFrame
set_option linter.unusedSimpArgs false
set_option linter.unusedVariables false
set_option maxRecDepth 100000
section
variable {W:World} {B g:Nat} {y:ImgV} {s:ImgS} {tl:List Ro}
end
def z6:Array Value:=#[.slice none 0 0,.slice none 0 0,.slice none 0 0,.int .u32 0,.int .u32 0,.slice none 0 0]
theorem z6_sz:(Tryz.prog.info? 28).map (·.size)=some z6.size:=by kernel_rfl
theorem own_cap {W:World} {B size n c:Nat} {e:TypeId} {A:Option Addr} {xs:List Value} (h:W.ownsRow B e size (.slice A n c) n xs):n≤c:=by
 obtain ⟨_,c',e,h1,_⟩:=ownsRow_slice h
 injection e with _ _ e3
 omega
end Go.Proofs.YtikbegmodacopaaGreatDoor
namespace Go.Proofs.YtikbegmodacopaaGreatDoor
open Go.RowKit Go.PlainAid Go.BigFrame
set_option linter.unusedSimpArgs false
set_option linter.unusedVariables false
set_option maxRecDepth 100000
end Go.Proofs.YtikbegmodacopaaGreatDoor
