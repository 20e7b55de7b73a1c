/-
  Joined and packed by program.
-/
import Derived.Test.YtikbegmodacopaaGreatDoorC25
namespace Go.Proofs.YtikbegmodacopaaGreatDoor
open Go.RowKit Go.PlainAid Go.BigFrame
set_option linter.unusedSimpArgs false
set_option linter.unusedVariables false
set_option maxRecDepth 100000
theorem obj_yes2 {x:ImgV} {s:ObjS} {w W:World} {B g q:Nat} {r:Ro} {cs:Array Value} (h:objE x=0) (hO:Owns W B (oRows g (objO x) s [r])) (hq:q<B) (hB:w.heap.size≤q∧w.heap.size≤B) (hb:Below w.heap.size w W) (hc:cs=objV (objO x) s) :
  ObjIs x w (.returned (.tuple #[.agg cs,.int .i64 0])) (W.setRow q cs):=by
 subst hc
 unfold ObjIs
 rw [if_pos h]
 refine ⟨s,rfl,?_,below_setRow hb hB.1 _⟩
 have h1:=(hO.keepB (w':=W.setRow q (objV (objO x) s)) fun k hk _=>setRow_other _ _ _ _ (by omega)).lo hB.2
 refine h1.pick [⟨36,1,.slice (some ⟨g,0,none⟩) 8 8,8,(objV (objO x) s).toList⟩,r] fun cnt one k1 k2 k3=>?_
 unfold oRows ownO
 simp only [k2,k3]
 omega
section
variable {W W' W1:World} {B b:Nat} {a5 a0 a1:Value} {p0 p1:Addr}
theorem kqB (hz:b<W1.heap.size) (h0:p0.block<W1.heap.size) (h1:p1.block<W1.heap.size) (h:W.cell? ⟨b,5,none⟩=some a5∧W.cell? p0=some a0∧W.cell? p1=some a1∧Below W1.heap.size W1 W) (hb:Below W1.heap.size W W') :
  W'.cell? ⟨b,5,none⟩=some a5∧W'.cell? p0=some a0∧W'.cell? p1=some a1∧Below W1.heap.size W1 W' :=
 ⟨(hb.cell (p:=⟨b,5,none⟩) hz).trans h.1,(hb.cell (p:=p0) h0).trans h.2.1,(hb.cell (p:=p1) h1).trans h.2.2.1,h.2.2.2.trans hb⟩
theorem kqU (hz:b<W1.heap.size) (h0:p0.block<W1.heap.size) (h1:p1.block<W1.heap.size) (h:W.cell? ⟨b,5,none⟩=some a5∧W.cell? p0=some a0∧W.cell? p1=some a1∧Below W1.heap.size W1 W) (hb:Below W.heap.size W W') :
  W'.cell? ⟨b,5,none⟩=some a5∧W'.cell? p0=some a0∧W'.cell? p1=some a1∧Below W1.heap.size W1 W':=kqB hz h0 h1 h (hb.mono h.2.2.2.size)
theorem kq0 (h5:W.cell? ⟨b,5,none⟩=some a5) (h0:W.cell? p0=some a0) (h1:W.cell? p1=some a1) (h:Below W1.heap.size W1 W) :
  W.drew.cell? ⟨b,5,none⟩=some a5∧W.drew.cell? p0=some a0∧W.drew.cell? p1=some a1∧Below W1.heap.size W1 W.drew:=⟨h5,h0,h1,h.drew⟩
end
section
variable {W:World} {B g:Nat} {y:ObjV} {s:ObjS} {tl:List Ro}
theorem stp_ent2 {ops:Array Oper} {o:Oper} {a:Act} {K:Act→World→Prop} {Q:Exit→Act→World→Prop} {E:Prop} (hgd:o.guard=none) (u v:Operand)
  (ho:o.op=.call { callee:=.builtin .append,args:=#[u,v],argTypes:=#[34,34] }) (hO:Owns W B (oRows g y s tl)) (hB:B≤W.heap.size) (hs:a.eval u=.slice s.e.A y.entries.length s.e.c) (l:EntV)
  (hx:a.eval v=.slice (some ⟨W.heap.size,0,none⟩) 1 1) (hl:y.entries.length≤1048576)
  (h:∀ A c w',Owns (w'.setCell ⟨g,7,none⟩ (.slice A (y.entries.length+1) c)) B (oRows g { y with entries:=y.entries ++ [l] } { s with e:=⟨A,c⟩ } tl)→w'.cell? ⟨g,7,none⟩=some (.slice s.e.A y.entries.length s.e.c)→w'.frozen? ⟨g,7,none⟩=false→g<w'.heap.size →
    Below B W w'→Below B W (w'.setCell ⟨g,7,none⟩ (.slice A (y.entries.length+1) c))→K (a.put o.dst (.slice A (y.entries.length+1) c)) w') :
  if Region.wanted o (yielded ops a.tmps)=true then Oper.wp Tryz.prog o a (W.alloc (.cells #[.string l.name,.string l.lab] 83)) K Q else E:=by
 obtain ⟨i0,hi,hz0,hz1,hz2⟩:=info_parts ent_info
 have hw:Region.wanted o (yielded ops a.tmps)=true:=by simp [Region.wanted,hgd]
 rw [if_pos hw]
 have hr:(oRows g y s tl)[6]?=some ⟨83,2,.slice s.e.A y.entries.length s.e.c,y.entries.length,y.entries.flatMap eE⟩:=rfl
 have hOA:=hO.alloc (.cells #[.string l.name,.string l.lab] 83)
 have hBA:B≤(W.alloc (.cells #[.string l.name,.string l.lab] 83)).heap.size:=by rw [World.size_alloc];omega
 refine wp_append_any _ u v 34 ho B 83 i0 _ 2 32 Tryz.underlying34 hi hz0 hz1 hz2 rfl (by omega) _ y.entries.length _ hs (hOA.at_ hr) _ _ 1 1 (eE l) hx (reads_new W 83 2 1 (eE l) rfl) (by simp [Value.oneCell',lE,fE,eE]) (by simp only [maxLen];omega) (by omega) hBA ?_
 intro v' w' hown hg hat
 obtain ⟨A,c,rfl,_,_⟩:=ownsRow_slice hown
 have hO':=hOA.turn hr hg (r':=⟨83,2,.slice A (y.entries.length+1) c,y.entries.length+1,y.entries.flatMap eE ++ (eE l)⟩) hown (by
  rcases hat with h2 | h2
  ·exact .inl h2
  ·exact .inr (.inr ⟨_,h2,Nat.le_refl _⟩))
 have hb:=(Below.refl B (W.alloc (.cells #[.string l.name,.string l.lab] 83))).grown hg hBA (fun j hj=>(hOA.lt_ (List.mem_of_getElem? hr) hj).1)
 have hgb:=hO'.base (i:=0) (e:=36) (size:=1) (n:=8) (g:=g) (c:=8) rfl
 exact h A c w' (oR_ent hO' l rfl rfl) (hO'.cell (i:=0) (j:=7) rfl rfl) (hO'.frozen (i:=0) rfl 7) hgb.2 (((Below.refl B W).alloc hB _).trans hb) ((((Below.refl B W).alloc hB _).trans hb).setCell (p:=⟨g,7,none⟩) hgb.1 _)
end
set_option maxHeartbeats 16000000 in
theorem rObject_any (x:ImgV) (s:ImgS) (w:World) (hx:ImgOk x) (hr:ImgR w w.heap.size x s):Calls Tryz.prog 11 #[.agg (imgV x s)] w (ObjIs x w):=by
 have HX:=hide_ hx
 have HR:=hide_ hr
 obtain ⟨W1,hW1⟩:∃ W,W=(w.alloc (.cells (imgV x s) 28)).alloc (.cells z8 36):=⟨_,rfl⟩
 have HS1:=hide_ (show W1.heap.size=w.heap.size+2 by rw [hW1];simp)
 have HB1:=hide_ (show Below w.heap.size w W1 by rw [hW1];exact ((Below.refl _ _).alloc (Nat.le_refl _) _).alloc (by simp) _)
 have HK0:=hide_ (show Blk W1 w.heap.size 28 (imgV x s) by rw [hW1];exact (Blk.new w _ _).alloc _)
 have HK1:=hide_ (show Blk W1 (w.heap.size+1) 36 z8 by
  have h:=Blk.new (w.alloc (.cells (imgV x s) 28)) 36 z8
  rw [World.size_alloc] at h
  rw [hW1];exact h)
 have HAT:=hide_ (fun W (hb:Below W1.heap.size W1 W)=>img_cells (HK0.out.below hb (by have:=HS1.out;omega)))
 have HRES:=hide_ (fun W (hb:Below W1.heap.size W1 W)=>HK1.out.below hb (by have:=HS1.out;omega))
 have FIN:=hide_ (fun W (hb:Below W1.heap.size W1 W)=>show Below w.heap.size w W from HB1.out.trans (hb.mono (by have:=HS1.out;omega)))
 have HRR:=hide_ (fun W (hb:Below W1.heap.size W1 W)=>show ImgR W W.heap.size x s from (HR.out.below (FIN.out W hb)).more (by have:=hb.size;have:=HS1.out;omega))
 have BAD:=hide_ (fun W (e:Int) (h:objE x=e) (h0:e≠0) (hb:Below W1.heap.size W1 W)=>obj_no (w':=W.setRow (w.heap.size+1) z8) h h0 (below_setRow (FIN.out W hb) (by omega) _))
 have HCK:=hide_ (fun W (hb:Below W1.heap.size W1 W)=>rChkI_any x s W HX.out (HRR.out W hb))
 have HBE:=hide_ (fun W (hb:Below W1.heap.size W1 W) h=>rbeyond_any x s W HX.out (HRR.out W hb) h)
 have HPL:=hide_ (fun W (hb:Below W1.heap.size W1 W) h hg=>rplaces_any x s W HX.out (HRR.out W hb) h hg)
 have HST:=hide_ (fun W (hb:Below W1.heap.size W1 W) k t ht=>rstatic_any x s k t W HX.out (HRR.out W hb) ht)
 clear HR hr hx HK0 HK1 HB1
 unfold imgV at hW1 HCK HBE HPL HST ⊢
 obtain ⟨⟨cA,cc⟩,⟨jA,jc⟩,⟨dA,dc⟩,⟨nA,nc⟩⟩:=s
 dsimp only at hW1 HAT HRR HCK HBE HPL HST ⊢
 unfold z8 at hW1
 have HBW:=hide_ (Below.refl W1.heap.size W1)
 go_enter Tryz.func11,Tryz.ntmps11
 go_upto_region 1 with (fail)
 rw [← hW1]
 clear hW1
 obtain ⟨f0,f1,f2,f3,f4,f5⟩:=HAT.out W1 HBW.out
 have CK:=hide_ (HCK.out W1 HBW.out)
 obtain ⟨v,hv⟩:∃ v,v=imgChk x:=⟨_,rfl⟩
 rw [← hv] at CK
 have HV:=hide_ hv
 clear hv HCK
 go_wp2_with fail
 refine CK.out.mono ?_
 rintro e w2 ⟨rfl,hb2⟩
 have HB2:=hide_ hb2
 clear hb2 f0 f1 f2 f3 f4 f5 HBW CK
 by_cases hv0:v=0
 ·subst hv0
  have hbd:=ic_bound HX.out HV.out.symm
  have HBD:=hide_ hbd
  have BE:=hide_ (HBE.out w2 HB2.out hbd.1)
  obtain ⟨l1,l2,l4⟩:=hbd.1
  clear HBE hbd
  obtain ⟨f0,f1,f2,f3,f4,f5⟩:=HAT.out w2 HB2.out
  by_cases hbg:begB x=true
  ·have HBG:=hide_ hbg
   rw [hbg] at BE
   go_wp2_with fail
   refine BE.out.mono ?_
   rintro e w3 ⟨rfl,hb3⟩
   have HB3:=hide_ (HB2.out.trans (hb3.mono HB2.out.size))
   clear hb3 f0 f1 f2 f3 f4 f5 BE hbg
   have HBA:=hide_ (HB3.out.alloc HB3.out.size (.cells #[.slice none 0 0,.slice none 0 0,.int .u32 0,.int .u32 0,.slice none 0 0,.slice none 0 0,.slice none 0 0,.slice none 0 0] 36))
   have HBX:=hide_ (Owns.box8 (And.intro (Owns.nil_ (w:=w3) (B:=W1.heap.size)) HB3.out.size) (.slice none 0 0) (.slice none 0 0) (.int .u32 0) (.int .u32 0) (.slice none 0 0) (.slice none 0 0) (.slice none 0 0) (.slice none 0 0))
   obtain ⟨g,hg⟩:∃ g,g=w3.heap.size:=⟨_,rfl⟩
   obtain ⟨w4,hw4⟩:∃ W,W=w3.alloc (.cells #[.slice none 0 0,.slice none 0 0,.int .u32 0,.int .u32 0,.slice none 0 0,.slice none 0 0,.slice none 0 0,.slice none 0 0] 36):=⟨_,rfl⟩
   rw [← hw4] at HBA HBX
   rw [← hg] at HBX
   obtain ⟨f0,f1,f2,f3,f4,f5⟩:=HAT.out w4 HBA.out
   have PL:=hide_ (HPL.out w4 HBA.out HBD.out.1 HBG.out)
   go_upto_region 7 with (fail)
   rw [← hw4,← hg]
   clear hw4 hg HPL
   go_wp2_with fail
   refine PL.out.mono ?_
   rintro e w5 ⟨gb,cb,rfl,hO5,hb5⟩
   have HB:=hide_ (HBA.out.trans (hb5.mono HBA.out.size))
   have HO:=hide_ (show Owns w5 W1.heap.size (oRows g ⟨[],[],0,0,labK x 0,[],[],[]⟩ ⟨⟨none,0⟩,⟨none,0⟩,⟨none,0⟩,⟨none,0⟩,⟨none,0⟩,⟨none,0⟩⟩ [bRow gb cb x.code.length (allP x)]) from start0 (HBX.out.push hb5 (r:=bRow gb cb x.code.length (allP x)) (hO5.at_ (i:=0) rfl) HBA.out.size) HB.out.size)
   clear hO5 hb5 PL HBX HBA HB3 HB2 f0 f1 f2 f3 f4 f5
   have HNM:=hide_ (fun (p:Int) (h0:0≤p) (h1:p<4294967296) W=>rname_any p h0 h1 W)
   have LIN:=hide_ (allP_le HX.out HBG.out)
   go_wp2_with fail
   go_loopw [7] (fun i wr=>∃ (k:Nat) (sl:SL),k≤x.code.length+1∧i=.int .i64 k∧Hid (Owns wr W1.heap.size (oRows g ⟨[],[],0,0,labK x k,[],[],[]⟩ ⟨⟨none,0⟩,⟨none,0⟩,sl,⟨none,0⟩,⟨none,0⟩,⟨none,0⟩⟩ [bRow gb cb x.code.length (allP x)]))∧Hid (Below W1.heap.size W1 wr)) (fun i _=>x.code.length+1 - (intOf i).toNat)
   case atStart=>exact ⟨0,⟨none,0⟩,Nat.zero_le _,rfl,HO,HB⟩
   case round =>
    clear HO HB
    obtain ⟨k,sl,hk,rfl,HO,HB⟩:=hrel
    by_cases hlt:k<x.code.length+1
    ·have q0:wr.cell? ⟨gb,k,none⟩=some (.bool (decide ((k:Int) ∈ allP x))):=HO.out.cell (i:=7) (e:=4) (size:=1) rfl (show (booV (mkB x.code.length (allP x)))[k]?=some (.bool (decide ((k:Int) ∈ allP x))) by unfold booV;rw [List.getElem?_map,mkB_get _ (by omega)];rfl)
     have NEXT:=hide_ (labK_at x k)
     obtain ⟨b,hb⟩:∃ b,b=decide ((k:Int) ∈ allP x):=⟨_,rfl⟩
     rw [← hb] at q0 NEXT
     clear hb
     cases b with
     | false =>
      go_wp2
      go_roundw
      case rel=>exact ⟨k+1,sl,by omega,by go_num,hide_ (by have h8:=NEXT.out;simp only [Bool.false_eq_true,if_false,List.append_nil] at h8;rw [h8];exact HO.out),HB⟩
      case measure=>simp [intOf] <;> omega
     | true =>
      obtain ⟨⟨_,_,_,_,b4,_,_,_⟩,hg0,hg1⟩:=oR_box HO.out
      dsimp only at b4
      have HLL:=hide_ (show (labK x k).length≤1048576 by have:=labK_len x k;omega)
      have hwk:IntKind.u32.wrap (k:Int)=(k:Int):=by rw [IntKind.wrap_u32];omega
      have HC:=hide_ (fun W=>HNM.out (k:Int) (by omega) (by omega) W)
      go_upto_region 12 with (fail)
      go_region_law (first
       | (refine stp_lab (by rfl) _ _ (by rfl) HOW.out HBW.out.size (by rfl) (labP (k:Int)) (by rfl) HLL.out ?_;intro A9 c9 w10 hO10 h10 f10 z10 hb10;dsimp only at hO10 h10 hb10)
       | (go_simp;go_at_call 45;refine (HC.out _).mono ?_;rintro e w9 ⟨rfl,hb9⟩;have HOW:=hide_ (HO.out.drew.below hb9);have HBW:=hide_ (HB.out.drew.trans (hb9.mono HB.out.size));have b4w:=(hb9.cell (p:=⟨g,4,none⟩) hg1).trans b4;have z9:=Nat.lt_of_lt_of_le hg1 hb9.size))
      all_goals
       go_wp2
       go_roundw
       case rel=>exact ⟨k+1,⟨A9,c9⟩,by omega,by go_num,hide_ (by have h8:=NEXT.out;simp only [if_true] at h8;rw [h8];exact hO10),hide_ (HBW.out.trans hb10)⟩
       case measure=>simp [intOf] <;> omega
    ·obtain rfl:k=x.code.length+1:=by omega
     have HL:=hide_ (labK_all HX.out HBG.out)
     have HLL:=hide_ (show ((plc x).map labP).length=(plc x).length from List.length_map _)
     have HO2:=hide_ (show Owns wr W1.heap.size (oRows g ⟨(x.code.take 0).map (codP x.code.length),[],0,0,(plc x).map labP,fixF x 0,[],[]⟩ ⟨⟨none,0⟩,⟨none,0⟩,sl,⟨none,0⟩,⟨none,0⟩,⟨none,0⟩⟩ [bRow gb cb x.code.length (allP x)]) by
      have h9:=HO.out
      rw [HL.out] at h9
      exact h9)
     clear HO
     obtain ⟨⟨_,_,_,_,b4,_,_,_⟩,hg0,hg1⟩:=oR_box HO2.out
     dsimp only at b4
     rw [HLL.out] at b4
     by_cases h4:4096<(plc x).length
     ·have g4:(4096:Int)<((plc x).length:Int):=by omega
      have RS:=hide_ (HRES.out wr HB.out)
      have F:=hide_ (BAD.out wr 121 (oe_121 HV.out.symm HBG.out h4) (by decide) HB.out)
      clear h4
      go_wp2_with (first | (refine wpList_store_row rfl 36 (.tmp 2) (.tmp 51) rfl _ z8 rfl rfl 36 z8 RS.out z8_sz rfl z8_one ?_))
      exact bodyPost_ret (v:=.tuple #[.agg z8,.int .i64 121]) (result_cell2 rfl _ _ _ (w.heap.size+1) z8 _ rfl rfl (run_loadVar_row _ _ _ _ _ _ _ (setRow_heap _ _ _ _ _ _ RS.out) Tryz.underlying36 rfl z8_sz)) rfl F.out
     ·have g4:¬ (4096:Int)<((plc x).length:Int):=by omega
      have HE0:=hide_ (oe_0 HV.out.symm HBG.out h4)
      clear h4
      go_wp2_with fail
      clear b4 hg0 hg1 g4
      obtain ⟨wo,rfl⟩:∃ wo:World,wo=wr:=⟨_,rfl⟩
      go_loopw [8] (fun i wr=>∃ (k:Nat) (sc sf:SL),k≤x.code.length∧i=.int .i64 k∧Hid (Owns wr W1.heap.size (oRows g ⟨(x.code.take k).map (codP x.code.length),[],0,0,(plc x).map labP,fixF x k,[],[]⟩ ⟨sc,⟨none,0⟩,sl,sf,⟨none,0⟩,⟨none,0⟩⟩ [bRow gb cb x.code.length (allP x)]))∧Hid (Below W1.heap.size W1 wr)) (fun i _=>x.code.length - (intOf i).toNat)
      case atStart=>exact ⟨0,⟨none,0⟩,⟨none,0⟩,Nat.zero_le _,rfl,HO2,HB⟩
      case round =>
       clear HO2 HB
       obtain ⟨k,sc,sf,hk,rfl,HO,HB⟩:=hrel
       obtain ⟨f0,f1,f2,f3,f4,f5⟩:=HAT.out wr HB.out
       have hbz:w.heap.size<wr.heap.size:=by have:=HB.out.size;have:=HS1.out;omega
       by_cases hlt:k<x.code.length
       ·obtain ⟨t,ht⟩:∃ t,x.code[k]?=some t:=⟨_,List.getElem?_eq_getElem hlt⟩
        obtain ⟨_,ar0,ar1⟩:=HX.out.code t (List.mem_of_getElem? ht)
        obtain ⟨_,ad,rfl,hbk,p0,p1⟩:=el_cells cE_len (HRR.out wr HB.out).rc (by omega) ht
        have q0:=p0 _ rfl
        have q1:=p1 1 _ (by omega) rfl
        have CNEXT:=hide_ (take_at (codP x.code.length) ht)
        have FNEXT:=hide_ (fixF_at ht)
        have HAR:=hide_ (fun (h:stB x.code.length t=true)=>LIN.out t.2 (by
         unfold allP
         exact List.mem_append_right _ (List.mem_map_of_mem (f:=(·.2)) (List.mem_filter.2 ⟨List.mem_of_getElem? ht,h⟩))))
        have HCP:=hide_ (show codP x.code.length t=if stB x.code.length t=true then (t.1,0) else t from rfl)
        have HLK:=hide_ (show ((x.code.take k).map (codP x.code.length)).length=k by rw [List.length_map,List.length_take];omega)
        have HLC:=hide_ (show ((x.code.take k).map (codP x.code.length)).length≤1048576 by rw [List.length_map,List.length_take];omega)
        obtain ⟨w3,hw3⟩:∃ W,W=wr.alloc (.cells #[.int .u8 t.1,.int .u32 t.2] 66):=⟨_,rfl⟩
        obtain ⟨q,hq⟩:∃ q,q=wr.heap.size:=⟨_,rfl⟩
        have HO3:=hide_ (show Owns w3 W1.heap.size (oRows g ⟨(x.code.take k).map (codP x.code.length),[],0,0,(plc x).map labP,fixF x k,[],[]⟩ ⟨sc,⟨none,0⟩,sl,sf,⟨none,0⟩,⟨none,0⟩⟩ [bRow gb cb x.code.length (allP x)] ++ [⟨66,1,.slice (some ⟨q,0,none⟩) 2 2,2,[.int .u8 t.1,.int .u32 t.2]⟩]) by
         rw [hw3,hq]
         exact HO.out.box 66 #[.int .u8 t.1,.int .u32 t.2] HB.out.size (by simp [maxLen]))
        have HB3:=hide_ (show Below W1.heap.size W1 w3 by rw [hw3];exact HB.out.alloc HB.out.size _)
        have HST3:=hide_ (HST.out w3 HB3.out k t ht)
        obtain ⟨op,arg⟩:=t
        dsimp only at q0 q1 ar0 ar1 hw3 HO3 HST3 FNEXT HAR HCP
        obtain ⟨b,hb⟩:∃ b,b=stB x.code.length (op,arg):=⟨_,rfl⟩
        rw [← hb] at HST3 FNEXT HAR HCP
        clear hb p0 p1 ht
        go_upto_region 19 with (fail)
        rw [← hw3,← hq]
        clear hw3 hq HO HB f0 f1 f2 f3 f4 f5 q0 q1 hbk hbz
        obtain ⟨f0,f1,f2,f3,f4,f5⟩:=HAT.out w3 HB3.out
        go_wp2_with fail
        refine HST3.out.mono ?_
        rintro e w4 ⟨rfl,hb4⟩
        have HO4:=hide_ (HO3.out.below hb4)
        have HB4:=hide_ (HB3.out.trans (hb4.mono HB3.out.size))
        clear hb4 f0 f1 f2 f3 f4 f5 HO3 HB3 HST3
        cases b with
        | false =>
         have HO5:=hide_ (show Owns w4 W1.heap.size (oRows g ⟨(x.code.take k).map (codP x.code.length),[],0,0,(plc x).map labP,fixF x k,[],[]⟩ ⟨sc,⟨none,0⟩,sl,sf,⟨none,0⟩,⟨none,0⟩⟩ [bRow gb cb x.code.length (allP x)]) from HO4.out.pick [⟨66,1,.slice (some ⟨q,0,none⟩) 2 2,2,[.int .u8 op,.int .u32 arg]⟩] fun cnt one k1 k2 k3=>by
          simp only [oRows,k1,k2,k3,List.cons_append,List.nil_append];omega)
         have e0:w4.cell? ⟨q,0,none⟩=some (.int .u8 op):=HO4.out.cell (i:=8) (e:=66) (size:=1) (j:=0) rfl rfl
         have e1:w4.cell? ⟨q,1,none⟩=some (.int .u32 arg):=HO4.out.cell (i:=8) (e:=66) (size:=1) (j:=1) rfl rfl
         obtain ⟨⟨b0,_,_,_,_,_,_,_⟩,hg0,hg1⟩:=oR_box HO5.out
         dsimp only at b0
         rw [HLK.out] at b0
         have HCF:=hide_ (show codP x.code.length (op,arg)=(op,arg) from HCP.out)
         go_wp2_with (at_builtin;refine wst_cod rfl (.tmp 83) (.tmp 85) rfl HO5.out HB4.out.size (by rw [HLK.out];rfl) (op,arg) rfl HLC.out ?_)
         intro A9 c9 w10 hO10 h10 f10 z10 hb10
         (try dsimp only at hO10 h10 hb10)
         (try rw [HLK.out] at hO10)
         (try rw [HLK.out] at h10)
         (try rw [HLK.out] at hb10)
         have HO10:=hide_ hO10
         have HB10:=hide_ (HB4.out.trans hb10)
         clear hO10 hb10 e0 e1 b0
         go_wp2
         go_roundw
         case rel=>exact ⟨k+1,⟨A9,c9⟩,sf,by omega,by go_num,hide_ (by have h8:=FNEXT.out;simp only [Bool.false_eq_true,if_false,List.append_nil] at h8;rw [h8,CNEXT.out,HCF.out,List.map_take];exact HO10.out),HB10⟩
         case measure=>simp [intOf] <;> omega
        | true =>
         obtain ⟨ag0,ag1⟩:=HAR.out (by simp)
         have e1:w4.cell? ⟨q,1,none⟩=some (.int .u32 arg):=HO4.out.cell (i:=8) (e:=66) (size:=1) (j:=1) rfl rfl
         have e2:w4.frozen? ⟨q,1,none⟩=false:=HO4.out.frozen (i:=8) (e:=66) (size:=1) rfl 1
         have e3:=HO4.out.base (i:=8) (e:=66) (size:=1) (g:=q) rfl
         have e4:=e3.2
         have HE3:=hide_ e3.1
         obtain ⟨w5,hw5⟩:∃ W,W=w4.setCell ⟨q,1,none⟩ (.int .u32 0):=⟨_,rfl⟩
         have HO5:=hide_ (show Owns w5 W1.heap.size (oRows g ⟨(x.code.take k).map (codP x.code.length),[],0,0,(plc x).map labP,fixF x k,[],[]⟩ ⟨sc,⟨none,0⟩,sl,sf,⟨none,0⟩,⟨none,0⟩⟩ [bRow gb cb x.code.length (allP x)] ++ [⟨66,1,.slice (some ⟨q,0,none⟩) 2 2,2,[.int .u8 op,.int .u32 0]⟩]) by
          rw [hw5]
          exact HO4.out.store (i:=8) (e:=66) (size:=1) (j:=1) rfl (by show 1<2;omega) (.int .u32 0))
         have HB5:=hide_ (show Below W1.heap.size W1 w5 by rw [hw5];exact HB4.out.setCell (p:=⟨q,1,none⟩) HE3.out _)
         go_upto_region 22 with (fail)
         rw [← hw5]
         clear hw5 e1 e2 e3 e4 HO4 HB4
         obtain ⟨⟨_,_,_,_,_,b5,_,_⟩,hg0,hg1⟩:=oR_box HO5.out
         dsimp only at b5
         have HLL:=hide_ (show (fixF x k).length≤1048576 by have:=fixF_len x k;omega)
         have hwk:IntKind.u32.wrap (k:Int)=(k:Int):=by rw [IntKind.wrap_u32];omega
         have HC:=hide_ (fun W=>HNM.out arg ag0 (by omega) W)
         go_cut [] from 52 to 87 (fun wx=>∃ sf',Hid (Owns wx W1.heap.size (oRows g ⟨(x.code.take k).map (codP x.code.length),[],0,0,(plc x).map labP,fixF x (k+1),[],[]⟩ ⟨sc,⟨none,0⟩,sl,sf',⟨none,0⟩,⟨none,0⟩⟩ [bRow gb cb x.code.length (allP x)] ++ [⟨66,1,.slice (some ⟨q,0,none⟩) 2 2,2,[.int .u8 op,.int .u32 0]⟩]))∧Hid (Below W1.heap.size W1 wx))
         case first =>
          go_region_law (first
           | (refine stp_fix (by rfl) _ _ (by rfl) HOW.out HBW.out.size (by rfl) ⟨1,k,natS arg,0⟩ (by rfl) HLL.out ?_;intro A9 c9 w10 hO10 h10 f10 z10 hb10;dsimp only at hO10 h10 hb10)
           | (go_simp;go_at_call 45;refine (HC.out _).mono ?_;rintro e w9 ⟨rfl,hb9⟩;have HOW:=hide_ (HO5.out.drew.below hb9);have HBW:=hide_ (HB5.out.drew.trans (hb9.mono HB5.out.size));have b5w:=(hb9.cell (p:=⟨g,5,none⟩) hg1).trans b5;have z9:=Nat.lt_of_lt_of_le hg1 hb9.size))
          all_goals
           go_wp2
           go_meet
           exact ⟨⟨A9,c9⟩,hide_ (by have h8:=FNEXT.out;simp only [if_true] at h8;rw [h8];exact hO10),hide_ (HBW.out.trans hb10)⟩
         case rest =>
          clear HO5 HB5 b5 hg0 hg1
          obtain ⟨sf',HO6,HB6⟩:=hcut
          have HO7:=hide_ (show Owns wc W1.heap.size (oRows g ⟨(x.code.take k).map (codP x.code.length),[],0,0,(plc x).map labP,fixF x (k+1),[],[]⟩ ⟨sc,⟨none,0⟩,sl,sf',⟨none,0⟩,⟨none,0⟩⟩ [bRow gb cb x.code.length (allP x)]) from HO6.out.pick [⟨66,1,.slice (some ⟨q,0,none⟩) 2 2,2,[.int .u8 op,.int .u32 0]⟩] fun cnt one k1 k2 k3=>by
           simp only [oRows,k1,k2,k3,List.cons_append,List.nil_append];omega)
          have e0:wc.cell? ⟨q,0,none⟩=some (.int .u8 op):=HO6.out.cell (i:=8) (e:=66) (size:=1) (j:=0) rfl rfl
          have e1:wc.cell? ⟨q,1,none⟩=some (.int .u32 0):=HO6.out.cell (i:=8) (e:=66) (size:=1) (j:=1) rfl rfl
          obtain ⟨⟨b0,_,_,_,_,_,_,_⟩,hg0,hg1⟩:=oR_box HO7.out
          dsimp only at b0
          rw [HLK.out] at b0
          have HCF:=hide_ (show codP x.code.length (op,arg)=(op,0) from HCP.out)
          go_wp2_with (at_builtin;refine wst_cod rfl (.tmp 83) (.tmp 85) rfl HO7.out HB6.out.size (by rw [HLK.out];rfl) (op,0) rfl HLC.out ?_)
          intro A9 c9 w10 hO10 h10 f10 z10 hb10
          (try dsimp only at hO10 h10 hb10)
          (try rw [HLK.out] at hO10)
          (try rw [HLK.out] at h10)
          (try rw [HLK.out] at hb10)
          have HO10:=hide_ hO10
          have HB10:=hide_ (HB6.out.trans hb10)
          clear hO10 hb10 e0 e1 b0
          go_wp2
          go_roundw
          case rel=>exact ⟨k+1,⟨A9,c9⟩,sf',by omega,by go_num,hide_ (by rw [CNEXT.out,HCF.out,List.map_take];exact HO10.out),HB10⟩
          case measure=>simp [intOf] <;> omega
       ·obtain rfl:k=x.code.length:=by omega
        have HDL:=hide_ (show x.data.length≤65536 by have h1:=HBD.out.2.1;unfold roomOf at h1;have h2:=HX.out.zero.1;have h3:=HX.out.stack.1;omega)
        obtain ⟨C,hC⟩:∃ C,C=x.code.map (codP x.code.length):=⟨_,rfl⟩
        obtain ⟨F,hF⟩:∃ F,F=fixF x x.code.length:=⟨_,rfl⟩
        obtain ⟨LB,hLB⟩:∃ LB,LB=(plc x).map labP:=⟨_,rfl⟩
        have HO2:=hide_ (show Owns wr W1.heap.size (oRows g ⟨C,x.data.take 0,0,0,LB,F,[],[]⟩ ⟨sc,⟨none,0⟩,sl,sf,⟨none,0⟩,⟨none,0⟩⟩ [bRow gb cb x.code.length (allP x)]) by
         have h9:=HO.out
         rw [List.take_length,← hC,← hF,← hLB] at h9
         exact h9)
        clear HO
        have HCF:=hide_ (And.intro hC (And.intro hF hLB))
        clear hC hF hLB
        go_wp2_with fail
        obtain ⟨wo2,rfl⟩:∃ wo:World,wo=wr:=⟨_,rfl⟩
        go_loopw [12] (fun i wr=>∃ (k:Nat) (sd:SL),k≤x.data.length∧i=.int .i64 k∧Hid (Owns wr W1.heap.size (oRows g ⟨C,x.data.take k,0,0,LB,F,[],[]⟩ ⟨sc,sd,sl,sf,⟨none,0⟩,⟨none,0⟩⟩ [bRow gb cb x.code.length (allP x)]))∧Hid (Below W1.heap.size W1 wr)) (fun i _=>x.data.length - (intOf i).toNat)
        case atStart=>exact ⟨0,⟨none,0⟩,Nat.zero_le _,rfl,HO2,HB⟩
        case round =>
         clear HO2 HB f0 f1 f2 f3 f4 f5 hbz
         obtain ⟨k,sd,hk,rfl,HO,HB⟩:=hrel
         obtain ⟨f0,f1,f2,f3,f4,f5⟩:=HAT.out wr HB.out
         have hbz:w.heap.size<wr.heap.size:=by have:=HB.out.size;have:=HS1.out;omega
         by_cases hlt:k<x.data.length
         ·obtain ⟨p,hp⟩:∃ p,x.data[k]?=some p:=⟨_,List.getElem?_eq_getElem hlt⟩
          obtain ⟨⟨_,b1,_,_,_,_,_,_⟩,hg0,hg1⟩:=oR_box HO.out
          dsimp only at b1
          have hLL:(x.data.take k).length=k:=by rw [List.length_take];omega
          have HLL:=hide_ (show (x.data.take k).length≤1048576 by have:=HDL.out;omega)
          rw [hLL] at b1
          have HL2:=hide_ hLL
          clear hLL
          obtain ⟨ad,rfl,hbk,hcell⟩:=(HRR.out wr HB.out).rd.2 (by omega)
          have q0:=hcell k _ (show (u8s x.data)[k]?=some (.int .u8 p) by unfold u8s;rw [List.getElem?_map,hp];rfl)
          have NEXT:=hide_ (takeU_at hp)
          clear hcell hp
          have hDL:=HDL.out
          go_upto_region 27 with (fail)
          go_region_law (refine stp_dat (by rfl) _ _ (by rfl) HO.out.drew HB.out.drew.size (by rw [HL2.out];rfl) p (by rfl) HLL.out ?_;intro A9 c9 w10 hO10 h10 f10 z10 hb10;dsimp only at hO10 h10 hb10;rw [HL2.out] at hO10 h10 hb10)
          all_goals
           go_wp2
           go_roundw
           case rel=>exact ⟨k+1,⟨A9,c9⟩,by omega,by go_num,hide_ (by rw [NEXT.out];exact hO10),hide_ (HB.out.drew.trans hb10)⟩
           case measure=>simp [intOf] <;> omega
         ·obtain rfl:k=x.data.length:=by omega
          have HO3:=hide_ (show Owns wr W1.heap.size (oRows g ⟨C,x.data,0,0,LB,F,[],[]⟩ ⟨sc,sd,sl,sf,⟨none,0⟩,⟨none,0⟩⟩ [bRow gb cb x.code.length (allP x)]) by
           have h9:=HO.out
           rw [List.take_length] at h9
           exact h9)
          clear HO
          obtain ⟨⟨_,_,b2,_,_,_,_,_⟩,hg0,hg1⟩:=oR_box HO3.out
          dsimp only at b2
          have b8:wr.frozen? ⟨g,2,none⟩=false:=HO3.out.frozen (i:=0) rfl 2
          obtain ⟨w4,hw4⟩:∃ W,W=wr.setCell ⟨g,2,none⟩ (.int .u32 x.zero):=⟨_,rfl⟩
          have HO4:=hide_ (show Owns w4 W1.heap.size (oRows g ⟨C,x.data,x.zero,0,LB,F,[],[]⟩ ⟨sc,sd,sl,sf,⟨none,0⟩,⟨none,0⟩⟩ [bRow gb cb x.code.length (allP x)]) by rw [hw4];exact oR_zero HO3.out x.zero)
          have HB4:=hide_ (show Below W1.heap.size W1 w4 by rw [hw4];exact HB.out.setCell (p:=⟨g,2,none⟩) hg0 _)
          go_upto_region 29 with (fail)
          rw [← hw4]
          clear hw4 b2 b8 hg0 hg1 HO3 HB f0 f1 f2 f3 f4 f5 hbz
          obtain ⟨f0,f1,f2,f3,f4,f5⟩:=HAT.out w4 HB4.out
          have hbz:w.heap.size<w4.heap.size:=by have:=HB4.out.size;have:=HS1.out;omega
          obtain ⟨⟨_,_,_,b3,_,_,_,_⟩,hg0,hg1⟩:=oR_box HO4.out
          dsimp only at b3
          have b8:w4.frozen? ⟨g,3,none⟩=false:=HO4.out.frozen (i:=0) rfl 3
          have HO5:=hide_ (show Owns (w4.setCell ⟨g,3,none⟩ (.int .u32 x.stack)) W1.heap.size (oRows g ⟨C,x.data,x.zero,x.stack,LB,F,(x.jumps.take 0).map natS,[]⟩ ⟨sc,sd,sl,sf,⟨none,0⟩,⟨none,0⟩⟩ [bRow gb cb x.code.length (allP x)]) from oR_stack HO4.out x.stack)
          have HB5:=hide_ (show Below W1.heap.size W1 (w4.setCell ⟨g,3,none⟩ (.int .u32 x.stack)) from HB4.out.setCell (p:=⟨g,3,none⟩) hg0 _)
          go_wp2_with fail
          go_loopw [13] (fun i wr=>∃ (k:Nat) (st:SL),k≤x.jumps.length∧i=.int .i64 k∧Hid (Owns wr W1.heap.size (oRows g ⟨C,x.data,x.zero,x.stack,LB,F,(x.jumps.take k).map natS,[]⟩ ⟨sc,sd,sl,sf,st,⟨none,0⟩⟩ [bRow gb cb x.code.length (allP x)]))∧Hid (Below W1.heap.size W1 wr)) (fun i _=>x.jumps.length - (intOf i).toNat)
          case atStart=>exact ⟨0,⟨none,0⟩,Nat.zero_le _,rfl,HO5,HB5⟩
          case round =>
           clear HO5 HB5 HO4 HB4 f0 f1 f2 f3 f4 f5 hbz b3 b8 hg0 hg1
           obtain ⟨k,st,hk,rfl,HO,HB⟩:=hrel
           obtain ⟨f0,f1,f2,f3,f4,f5⟩:=HAT.out wr HB.out
           have hbz:w.heap.size<wr.heap.size:=by have:=HB.out.size;have:=HS1.out;omega
           by_cases hlt:k<x.jumps.length
           ·obtain ⟨p,hp⟩:∃ p,x.jumps[k]?=some p:=⟨_,List.getElem?_eq_getElem hlt⟩
            obtain ⟨p0,p1⟩:=HX.out.jumps p (List.mem_of_getElem? hp)
            obtain ⟨⟨_,_,_,_,_,_,b6,_⟩,hg0,hg1⟩:=oR_box HO.out
            dsimp only at b6
            have hLL:((x.jumps.take k).map natS).length=k:=by rw [List.length_map,List.length_take];omega
            have HLL:=hide_ (show ((x.jumps.take k).map natS).length≤1048576 by omega)
            rw [hLL] at b6
            have HL2:=hide_ hLL
            clear hLL
            obtain ⟨ad,rfl,hbk,hcell⟩:=(HRR.out wr HB.out).rj.2 (by omega)
            have q0:=hcell k _ (u32s_get hp)
            have NEXT:=hide_ (take_at natS hp)
            have HC:=hide_ (fun W=>HNM.out p p0 p1 W)
            clear hcell hp
            go_upto_region 33 with (fail)
            go_region_law (first
             | (refine stp_tgt (by rfl) _ _ (by rfl) HOW.out HBW.out.size (by rw [HL2.out];rfl) (natS p) (by rfl) HLL.out ?_;intro A9 c9 w10 hO10 h10 f10 z10 hb10;dsimp only at hO10 h10 hb10;rw [HL2.out] at hO10 h10 hb10)
             | (go_simp;go_at_call 45;refine (HC.out _).mono ?_;rintro e w9 ⟨rfl,hb9⟩;have HOW:=hide_ (HO.out.drew.below hb9);have HBW:=hide_ (HB.out.drew.trans (hb9.mono HB.out.size));have b6w:=(hb9.cell (p:=⟨g,6,none⟩) hg1).trans b6;have z9:=Nat.lt_of_lt_of_le hg1 hb9.size))
            all_goals
             go_wp2
             go_roundw
             case rel=>exact ⟨k+1,⟨A9,c9⟩,by omega,by go_num,hide_ (by rw [NEXT.out];exact hO10),hide_ (HBW.out.trans hb10)⟩
             case measure=>simp [intOf] <;> omega
           ·obtain rfl:k=x.jumps.length:=by omega
            have HO2:=hide_ (show Owns wr W1.heap.size (oRows g ⟨C,x.data,x.zero,x.stack,LB,F,x.jumps.map natS,(x.names.take 0).map entP⟩ ⟨sc,sd,sl,sf,st,⟨none,0⟩⟩ [bRow gb cb x.code.length (allP x)]) by
             have h9:=HO.out
             rw [List.take_length] at h9
             exact h9)
            clear HO
            go_wp2_with fail
            obtain ⟨wo3,rfl⟩:∃ wo:World,wo=wr:=⟨_,rfl⟩
            go_loopw [14] (fun i wr=>∃ (k:Nat) (se:SL),k≤x.names.length∧i=.int .i64 k∧Hid (Owns wr W1.heap.size (oRows g ⟨C,x.data,x.zero,x.stack,LB,F,x.jumps.map natS,(x.names.take k).map entP⟩ ⟨sc,sd,sl,sf,st,se⟩ [bRow gb cb x.code.length (allP x)]))∧Hid (Below W1.heap.size W1 wr)) (fun i _=>x.names.length - (intOf i).toNat)
            case atStart=>exact ⟨0,⟨none,0⟩,Nat.zero_le _,rfl,HO2,HB⟩
            case round =>
             clear HO2 HB f0 f1 f2 f3 f4 f5 hbz
             obtain ⟨k,se,hk,rfl,HO,HB⟩:=hrel
             obtain ⟨f0,f1,f2,f3,f4,f5⟩:=HAT.out wr HB.out
             have hbz:w.heap.size<wr.heap.size:=by have:=HB.out.size;have:=HS1.out;omega
             by_cases hlt:k<x.names.length
             ·obtain ⟨t,ht⟩:∃ t,x.names[k]?=some t:=⟨_,List.getElem?_eq_getElem hlt⟩
              obtain ⟨_,a0,a1⟩:=HX.out.names t (List.mem_of_getElem? ht)
              obtain ⟨_,ad,rfl,hbq,p0,p1⟩:=el_cells xE_len ((HRR.out W1 (Below.refl _ _)).below HB.out).rn (by omega) ht
              have hbk:=Nat.lt_of_lt_of_le hbq HB.out.size
              have q0:=p0 _ rfl
              have q1:=p1 1 _ (by omega) rfl
              have NEXT:=hide_ (take_at entP ht)
              obtain ⟨nm,pa⟩:=t
              dsimp only at q0 q1 NEXT a0 a1
              have hLL:((x.names.take k).map entP).length=k:=by rw [List.length_map,List.length_take];omega
              have HLL:=hide_ (show ((x.names.take k).map entP).length≤1048576 by omega)
              obtain ⟨⟨_,_,_,_,_,_,_,b7⟩,hg0,hg1⟩:=oR_box HO.out
              dsimp only at b7
              rw [hLL] at b7
              have HL2:=hide_ hLL
              have HC:=hide_ (fun W=>HNM.out pa a0 a1 W)
              clear p0 p1 ht hLL
              go_upto_region 37 with (fail)
              have hlt0:w.heap.size<W1.heap.size:=by have:=HS1.out;omega
              have hlt1:(ad.add (k * 2)).block<W1.heap.size:=hbq
              have hlt2:(⟨(ad.add (k * 2)).block,(ad.add (k * 2)).off+1,none⟩:Addr).block<W1.heap.size:=hbq
              refine wp_region_held_drew (S:=(fun W=>W.cell? ⟨w.heap.size,5,none⟩=some (.slice (some ad) x.names.length nc)∧W.cell? (ad.add (k * 2))=some (.string nm)∧W.cell? ⟨(ad.add (k * 2)).block,(ad.add (k * 2)).off+1,none⟩=some (.int .u32 pa)∧Below W1.heap.size W1 W)) (by kernel_rfl) (kq0 f5 q0 q1 HB.out) (fun hHeld=>?_)
              refine wpAnyH_take (i:=0) (v:=?_) rfl (by kernel_rfl) (by kernel_rfl) (by kernel_rfl) (fun _ _ _ h=>h) (Or.inl ⟨by rfl,?_⟩) (by assumption) ?_
              rotate_left
              ·(intro w hSw;(try dsimp only at hSw);go_simp);(try with_reducible rfl)
              simp only [Act.put,List.getElem_toArray,List.getElem_cons_zero,List.getElem_cons_succ,List.setIfInBounds_toArray,List.set_cons_zero,List.set_cons_succ]
              refine wpAnyH_take (i:=2) (v:=?_) rfl (by kernel_rfl) (by kernel_rfl) (by kernel_rfl) (fun _ _ _ h=>h) (Or.inl ⟨by rfl,?_⟩) (by assumption) ?_
              rotate_left
              ·(intro w hSw;(try dsimp only at hSw);go_simp);(try with_reducible rfl)
              simp only [Act.put,List.getElem_toArray,List.getElem_cons_zero,List.getElem_cons_succ,List.setIfInBounds_toArray,List.set_cons_zero,List.set_cons_succ]
              refine wpAnyH_take (i:=3) (v:=?_) rfl (by kernel_rfl) (by kernel_rfl) (by kernel_rfl) (fun _ _ _ h=>h) (Or.inl ⟨by rfl,?_⟩) (by assumption) ?_
              rotate_left
              ·(intro w hSw;(try dsimp only at hSw);go_simp);(try with_reducible rfl)
              simp only [Act.put,List.getElem_toArray,List.getElem_cons_zero,List.getElem_cons_succ,List.setIfInBounds_toArray,List.set_cons_zero,List.set_cons_succ]
              refine wpAnyH_take (i:=4) (v:=?_) rfl (by kernel_rfl) (by kernel_rfl) (by kernel_rfl) (fun _ _ _ h=>h) (Or.inl ⟨by rfl,?_⟩) (by assumption) ?_
              rotate_left
              ·(intro w hSw;(try dsimp only at hSw);go_simp);(try with_reducible rfl)
              simp only [Act.put,List.getElem_toArray,List.getElem_cons_zero,List.getElem_cons_succ,List.setIfInBounds_toArray,List.set_cons_zero,List.set_cons_succ]
              refine wpAnyH_take (i:=5) (v:=?_) rfl (by kernel_rfl) (by kernel_rfl) (by kernel_rfl) (fun _ _ _ h=>h) (Or.inl ⟨by rfl,?_⟩) (by assumption) ?_
              rotate_left
              ·(intro w hSw;(try dsimp only at hSw);go_simp);(try with_reducible rfl)
              simp only [Act.put,List.getElem_toArray,List.getElem_cons_zero,List.getElem_cons_succ,List.setIfInBounds_toArray,List.set_cons_zero,List.set_cons_succ]
              refine wpAnyH_take (i:=6) (v:=?_) rfl (by kernel_rfl) (by kernel_rfl) (by kernel_rfl) (fun _ _ _ h=>h) (Or.inl ⟨by rfl,?_⟩) (by assumption) ?_
              rotate_left
              ·(intro w hSw;(try dsimp only at hSw);go_simp);(try with_reducible rfl)
              simp only [Act.put,List.getElem_toArray,List.getElem_cons_zero,List.getElem_cons_succ,List.setIfInBounds_toArray,List.set_cons_zero,List.set_cons_succ]
              refine wpAnyH_take (i:=7) (v:=?_) rfl (by kernel_rfl) (by kernel_rfl) (by kernel_rfl) (fun _ _ _ h=>h) (Or.inl ⟨by rfl,?_⟩) (by assumption) ?_
              rotate_left
              ·(intro w hSw;(try dsimp only at hSw);go_simp);(try with_reducible rfl)
              simp only [Act.put,List.getElem_toArray,List.getElem_cons_zero,List.getElem_cons_succ,List.setIfInBounds_toArray,List.set_cons_zero,List.set_cons_succ]
              refine wpAnyH_take (i:=8) (v:=?_) rfl (by kernel_rfl) (by kernel_rfl) (by kernel_rfl) (fun _ _ _ h=>h) (Or.inl ⟨by rfl,?_⟩) (by assumption) ?_
              rotate_left
              ·(intro w hSw;(try dsimp only at hSw);go_simp);(try with_reducible rfl)
              simp only [Act.put,List.getElem_toArray,List.getElem_cons_zero,List.getElem_cons_succ,List.setIfInBounds_toArray,List.set_cons_zero,List.set_cons_succ]
              refine wpAnyH_take (i:=9) (v:=?_) rfl (by kernel_rfl) (by kernel_rfl) (by kernel_rfl) (fun _ _ _ h=>h) (Or.inl ⟨by rfl,?_⟩) (by assumption) ?_
              rotate_left
              ·(intro w hSw;(try dsimp only at hSw);go_simp);(try with_reducible rfl)
              simp only [Act.put,List.getElem_toArray,List.getElem_cons_zero,List.getElem_cons_succ,List.setIfInBounds_toArray,List.set_cons_zero,List.set_cons_succ]
              refine wpAnyH_take (i:=10) (v:=?_) rfl (by kernel_rfl) (by kernel_rfl) (by kernel_rfl) (fun _ _ _ h=>h) (Or.inl ⟨by rfl,?_⟩) (by assumption) ?_
              rotate_left
              ·(intro w hSw;(try dsimp only at hSw);go_simp);(try with_reducible rfl)
              simp only [Act.put,List.getElem_toArray,List.getElem_cons_zero,List.getElem_cons_succ,List.setIfInBounds_toArray,List.set_cons_zero,List.set_cons_succ]
              refine wpAnyH_take (i:=11) (v:=?_) rfl (by kernel_rfl) (by kernel_rfl) (by kernel_rfl) (fun _ _ _ h=>h) (Or.inl ⟨by rfl,?_⟩) (by assumption) ?_
              rotate_left
              ·(intro w hSw;(try dsimp only at hSw);go_simp);(try with_reducible rfl)
              simp only [Act.put,List.getElem_toArray,List.getElem_cons_zero,List.getElem_cons_succ,List.setIfInBounds_toArray,List.set_cons_zero,List.set_cons_succ]
              refine wpAnyH_take (i:=12) (v:=?_) rfl (by kernel_rfl) (by kernel_rfl) (by kernel_rfl) (fun _ _ _ h=>h) (Or.inl ⟨by rfl,?_⟩) (by assumption) ?_
              rotate_left
              ·(intro w hSw;(try dsimp only at hSw);go_simp);(try with_reducible rfl)
              simp only [Act.put,List.getElem_toArray,List.getElem_cons_zero,List.getElem_cons_succ,List.setIfInBounds_toArray,List.set_cons_zero,List.set_cons_succ]
              refine wpAnyH_take (i:=13) (v:=?_) rfl (by kernel_rfl) (by kernel_rfl) (by kernel_rfl) (fun _ _ _ h=>h) (Or.inl ⟨by rfl,?_⟩) (by assumption) ?_
              rotate_left
              ·(intro w hSw;(try dsimp only at hSw);go_simp);(try with_reducible rfl)
              simp only [Act.put,List.getElem_toArray,List.getElem_cons_zero,List.getElem_cons_succ,List.setIfInBounds_toArray,List.set_cons_zero,List.set_cons_succ]
              refine wpAnyH_ready (rs:=[1,14]) (by kernel_rfl) (by simp) ?_
              refine AllReadyH.cons rfl (fun K hK=>?_) (AllReadyH.cons rfl (fun K hK=>?_) AllReadyH.nil)
              ·go_simp
               refine hK.out _ _ (by assumption) (fun _=>?_)
               clear hK K
               refine wpAnyH_ready (rs:=[14]) (by kernel_rfl) (by simp) ?_
               refine AllReadyH.cons rfl (fun K hK=>?_) AllReadyH.nil
               go_simp
               go_at_call 45
               refine (HC.out _).mono ?_
               rintro e w9 ⟨rfl,hb9⟩
               have HOW:=hide_ (HO.out.drew.below hb9)
               have HBW:=hide_ (HB.out.drew.trans (hb9.mono HB.out.size))
               have b7w:=(hb9.cell (p:=⟨g,7,none⟩) hg1).trans b7
               have z9:=Nat.lt_of_lt_of_le hg1 hb9.size
               go_wp2_with fail
               refine hK.out _ _ (kqU hlt0 hlt1 hlt2 (by assumption) hb9) (fun hH9=>?_)
               clear hK K
               refine wpAnyH_take (i:=15) (v:=?_) rfl (by kernel_rfl) (by kernel_rfl) (by kernel_rfl) (fun _ _ _ h=>h) (Or.inl ⟨by rfl,?_⟩) (by assumption) ?_
               rotate_left
               ·(intro w hSw;(try dsimp only at hSw);go_simp);(try with_reducible rfl)
               simp only [Act.put,List.getElem_toArray,List.getElem_cons_zero,List.getElem_cons_succ,List.setIfInBounds_toArray,List.set_cons_zero,List.set_cons_succ]
               refine wpAnyH_ready (rs:=[16]) (by kernel_rfl) (by simp) ?_
               refine AllReadyH.cons rfl (fun K hK=>?_) AllReadyH.nil
               go_simp
               refine hK.out _ _ (kqU hlt0 hlt1 hlt2 hH9 ((Below.refl _ _).alloc (Nat.le_refl _) _)) (fun hHA=>?_)
               clear hK K
               refine wpAnyH_ready (rs:=[17]) (by kernel_rfl) (by simp) ?_
               refine AllReadyH.cons rfl (fun K hK=>?_) AllReadyH.nil
               refine stp_ent2 (by rfl) _ _ (by rfl) HOW.out HBW.out.size (by rw [HL2.out];rfl) ⟨nm,natS pa⟩ (by rfl) HLL.out ?_
               intro A9 c9 w10 hO10 h10 f10 z10 k10 hb10
               dsimp only at hO10 h10 k10 hb10
               rw [HL2.out] at hO10 h10 hb10
               refine hK.out _ _ (kqB hlt0 hlt1 hlt2 hH9 k10) (fun hHB=>?_)
               clear hK K
               refine wpAnyH_take (i:=18) (v:=?_) rfl (by kernel_rfl) (by kernel_rfl) (by kernel_rfl) (fun _ _ _ h=>h) (Or.inl ⟨by rfl,?_⟩) (by assumption) ?_
               rotate_left
               ·(intro w hSw;(try dsimp only at hSw);go_simp);(try with_reducible rfl)
               simp only [Act.put,List.getElem_toArray,List.getElem_cons_zero,List.getElem_cons_succ,List.setIfInBounds_toArray,List.set_cons_zero,List.set_cons_succ]
               refine wpAnyH_ready (rs:=[19]) (by kernel_rfl) (by simp) ?_
               refine AllReadyH.cons rfl (fun K hK=>?_) AllReadyH.nil
               go_simp
               refine hK.out _ _ (kqB hlt0 hlt1 hlt2 hH9 hb10) (fun hHC=>?_)
               clear hK K
               refine wpAnyH_done (by kernel_rfl) ?_ _
               go_wp2
               go_roundw
               case rel=>exact ⟨k+1,⟨A9,c9⟩,by omega,by go_num,hide_ (by rw [NEXT.out];exact hO10),hide_ (HBW.out.trans hb10)⟩
               case measure=>simp [intOf] <;> omega
              ·go_simp
               go_at_call 45
               refine (HC.out _).mono ?_
               rintro e w9 ⟨rfl,hb9⟩
               have HOW:=hide_ (HO.out.drew.below hb9)
               have HBW:=hide_ (HB.out.drew.trans (hb9.mono HB.out.size))
               have b7w:=(hb9.cell (p:=⟨g,7,none⟩) hg1).trans b7
               have z9:=Nat.lt_of_lt_of_le hg1 hb9.size
               go_wp2_with fail
               refine hK.out _ _ (kqU hlt0 hlt1 hlt2 (by assumption) hb9) (fun hH9=>?_)
               clear hK K
               refine wpAnyH_take (i:=15) (v:=?_) rfl (by kernel_rfl) (by kernel_rfl) (by kernel_rfl) (fun _ _ _ h=>h) (Or.inl ⟨by rfl,?_⟩) (by assumption) ?_
               rotate_left
               ·(intro w hSw;(try dsimp only at hSw);go_simp);(try with_reducible rfl)
               simp only [Act.put,List.getElem_toArray,List.getElem_cons_zero,List.getElem_cons_succ,List.setIfInBounds_toArray,List.set_cons_zero,List.set_cons_succ]
               refine wpAnyH_ready (rs:=[1,16]) (by kernel_rfl) (by simp) ?_
               refine AllReadyH.cons rfl (fun K hK=>?_) (AllReadyH.cons rfl (fun K hK=>?_) AllReadyH.nil)
               ·go_simp
                refine hK.out _ _ (by assumption) (fun _=>?_)
                clear hK K
                refine wpAnyH_ready (rs:=[16]) (by kernel_rfl) (by simp) ?_
                refine AllReadyH.cons rfl (fun K hK=>?_) AllReadyH.nil
                go_simp
                refine hK.out _ _ (kqU hlt0 hlt1 hlt2 hH9 ((Below.refl _ _).alloc (Nat.le_refl _) _)) (fun hHA=>?_)
                clear hK K
                refine wpAnyH_ready (rs:=[17]) (by kernel_rfl) (by simp) ?_
                refine AllReadyH.cons rfl (fun K hK=>?_) AllReadyH.nil
                refine stp_ent2 (by rfl) _ _ (by rfl) HOW.out HBW.out.size (by rw [HL2.out];rfl) ⟨nm,natS pa⟩ (by rfl) HLL.out ?_
                intro A9 c9 w10 hO10 h10 f10 z10 k10 hb10
                dsimp only at hO10 h10 k10 hb10
                rw [HL2.out] at hO10 h10 hb10
                refine hK.out _ _ (kqB hlt0 hlt1 hlt2 hH9 k10) (fun hHB=>?_)
                clear hK K
                refine wpAnyH_take (i:=18) (v:=?_) rfl (by kernel_rfl) (by kernel_rfl) (by kernel_rfl) (fun _ _ _ h=>h) (Or.inl ⟨by rfl,?_⟩) (by assumption) ?_
                rotate_left
                ·(intro w hSw;(try dsimp only at hSw);go_simp);(try with_reducible rfl)
                simp only [Act.put,List.getElem_toArray,List.getElem_cons_zero,List.getElem_cons_succ,List.setIfInBounds_toArray,List.set_cons_zero,List.set_cons_succ]
                refine wpAnyH_ready (rs:=[19]) (by kernel_rfl) (by simp) ?_
                refine AllReadyH.cons rfl (fun K hK=>?_) AllReadyH.nil
                go_simp
                refine hK.out _ _ (kqB hlt0 hlt1 hlt2 hH9 hb10) (fun hHC=>?_)
                clear hK K
                refine wpAnyH_done (by kernel_rfl) ?_ _
                go_wp2
                go_roundw
                case rel=>exact ⟨k+1,⟨A9,c9⟩,by omega,by go_num,hide_ (by rw [NEXT.out];exact hO10),hide_ (HBW.out.trans hb10)⟩
                case measure=>simp [intOf] <;> omega
               ·go_simp
                refine hK.out _ _ (kqU hlt0 hlt1 hlt2 hH9 ((Below.refl _ _).alloc (Nat.le_refl _) _)) (fun hHA=>?_)
                clear hK K
                refine wpAnyH_ready (rs:=[1]) (by kernel_rfl) (by simp) ?_
                refine AllReadyH.cons rfl (fun K hK=>?_) AllReadyH.nil
                go_simp
                refine hK.out _ _ (by assumption) (fun _=>?_)
                clear hK K
                refine wpAnyH_ready (rs:=[17]) (by kernel_rfl) (by simp) ?_
                refine AllReadyH.cons rfl (fun K hK=>?_) AllReadyH.nil
                refine stp_ent2 (by rfl) _ _ (by rfl) HOW.out HBW.out.size (by rw [HL2.out];rfl) ⟨nm,natS pa⟩ (by rfl) HLL.out ?_
                intro A9 c9 w10 hO10 h10 f10 z10 k10 hb10
                dsimp only at hO10 h10 k10 hb10
                rw [HL2.out] at hO10 h10 hb10
                refine hK.out _ _ (kqB hlt0 hlt1 hlt2 hH9 k10) (fun hHB=>?_)
                clear hK K
                refine wpAnyH_take (i:=18) (v:=?_) rfl (by kernel_rfl) (by kernel_rfl) (by kernel_rfl) (fun _ _ _ h=>h) (Or.inl ⟨by rfl,?_⟩) (by assumption) ?_
                rotate_left
                ·(intro w hSw;(try dsimp only at hSw);go_simp);(try with_reducible rfl)
                simp only [Act.put,List.getElem_toArray,List.getElem_cons_zero,List.getElem_cons_succ,List.setIfInBounds_toArray,List.set_cons_zero,List.set_cons_succ]
                refine wpAnyH_ready (rs:=[19]) (by kernel_rfl) (by simp) ?_
                refine AllReadyH.cons rfl (fun K hK=>?_) AllReadyH.nil
                go_simp
                refine hK.out _ _ (kqB hlt0 hlt1 hlt2 hH9 hb10) (fun hHC=>?_)
                clear hK K
                refine wpAnyH_done (by kernel_rfl) ?_ _
                go_wp2
                go_roundw
                case rel=>exact ⟨k+1,⟨A9,c9⟩,by omega,by go_num,hide_ (by rw [NEXT.out];exact hO10),hide_ (HBW.out.trans hb10)⟩
                case measure=>simp [intOf] <;> omega
             ·obtain rfl:k=x.names.length:=by omega
              have HO2:=hide_ (show Owns wr W1.heap.size (oRows g (objO x) ⟨sc,sd,sl,sf,st,se⟩ [bRow gb cb x.code.length (allP x)]) by
               have h9:=HO.out
               rw [List.take_length,HCF.out.1,HCF.out.2.1,HCF.out.2.2] at h9
               exact h9)
              obtain ⟨⟨b0,b1,b2,b3,b4,b5,b6,b7⟩,hg0,hg1⟩:=oR_box HO2.out
              have RS:=hide_ (HRES.out wr HB.out)
              have FF:=hide_ (show ObjIs x w (.returned (.tuple #[.agg (objV (objO x) ⟨sc,sd,sl,sf,st,se⟩),.int .i64 0])) (wr.setRow (w.heap.size+1) (objV (objO x) ⟨sc,sd,sl,sf,st,se⟩)) from obj_yes2 HE0.out HO2.out (by have:=HS1.out;omega) (by have:=HS1.out;omega) (FIN.out wr HB.out) rfl)
              have OS:=hide_ (show (Tryz.prog.info? 36).map (·.size)=some (objV (objO x) ⟨sc,sd,sl,sf,st,se⟩).size from z8_sz)
              have OO:=hide_ (show (objV (objO x) ⟨sc,sd,sl,sf,st,se⟩).all (·.oneCell')=true by simp [objV,Value.oneCell'])
              dsimp only at b0 b1 b2 b3 b4 b5 b6 b7
              clear HO HO2
              go_wp2_with (first | (refine wpList_store_row rfl 36 (.tmp 2) (.tmp 155) rfl _ (objV (objO x) ⟨sc,sd,sl,sf,st,se⟩) rfl rfl 36 z8 RS.out OS.out rfl OO.out ?_))
              exact bodyPost_ret (v:=.tuple #[.agg (objV (objO x) ⟨sc,sd,sl,sf,st,se⟩),.int .i64 0]) (result_cell2 rfl _ _ _ (w.heap.size+1) (objV (objO x) ⟨sc,sd,sl,sf,st,se⟩) _ rfl rfl (run_loadVar_row _ _ _ _ _ _ _ (setRow_heap _ _ _ _ _ _ RS.out) Tryz.underlying36 rfl OS.out)) rfl FF.out
  ·have hb0:begB x=false:=by simpa using hbg
   rw [hb0] at BE
   have F:=hide_ (fun w3 hb=>BAD.out w3 120 (oe_120 HV.out.symm hb0) (by decide) hb)
   go_wp2_with fail
   refine BE.out.mono ?_
   rintro e w3 ⟨rfl,hb3⟩
   have HB3:=hide_ (HB2.out.trans (hb3.mono HB2.out.size))
   have RS:=hide_ (HRES.out w3 HB3.out)
   have F:=hide_ (F.out w3 HB3.out)
   clear hb3 f0 f1 f2 f3 f4 f5 BE hb0 hbg
   go_wp2_with (first | (refine wpList_store_row rfl 36 (.tmp 2) (.tmp 23) rfl _ z8 rfl rfl 36 z8 RS.out z8_sz rfl z8_one ?_))
   exact bodyPost_ret (v:=.tuple #[.agg z8,.int .i64 120]) (result_cell2 rfl _ _ _ (w.heap.size+1) z8 _ rfl rfl (run_loadVar_row _ _ _ _ _ _ _ (setRow_heap _ _ _ _ _ _ RS.out) Tryz.underlying36 rfl z8_sz)) rfl F.out
 ·have hv2:(v != 0)=true:=by simpa using hv0
  have RS:=hide_ (HRES.out w2 HB2.out)
  have F:=hide_ (BAD.out w2 v (by rw [HV.out];exact oe_chk (by rw [← HV.out];exact hv0)) hv0 HB2.out)
  go_wp2_with (first | (refine wpList_store_row rfl 36 (.tmp 2) (.tmp 19) rfl _ z8 rfl rfl 36 z8 RS.out z8_sz rfl z8_one ?_))
  exact bodyPost_ret (v:=.tuple #[.agg z8,.int .i64 v]) (result_cell2 rfl _ _ _ (w.heap.size+1) z8 _ rfl rfl (run_loadVar_row _ _ _ _ _ _ _ (setRow_heap _ _ _ _ _ _ RS.out) Tryz.underlying36 rfl z8_sz)) rfl F.out
end Go.Proofs.YtikbegmodacopaaGreatDoor
