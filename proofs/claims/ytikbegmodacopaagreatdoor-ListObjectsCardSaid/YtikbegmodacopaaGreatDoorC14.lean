/-
  Joined and packed by program.
-/
import Derived.Test.YtikbegmodacopaaGreatDoorC13
import Derived.Test.YtikbegmodacopaaGreatDoorC01
import Derived.Test.YtikbegmodacopaaGreatDoorC07
import Derived.Test.YtikbegmodacopaaGreatDoorC03
import Derived.Test.YtikbegmodacopaaGreatDoorC06
namespace Go.Proofs.YtikbegmodacopaaGreatDoor
open Go.RowKit Go.PlainAid Go.BigFrame
set_option linter.unusedSimpArgs false
set_option linter.unusedVariables false
set_option maxRecDepth 100000
def OwnU (W:World) (B:Nat) (v:Value) (l:List Int):Prop:=W.ownsRow B 25 1 v l.length (u32s l)
theorem info_u32p:(Tryz.prog.info? 25).map (fun i=>(i.zero,i.size,i.bytes))=some (some (.int .u32 0),1,4):=by kernel_rfl
theorem own_lo {W:World} {B B':Nat} {e:TypeId} {size n:Nat} {v:Value} {xs:List Value} (h:W.ownsRow B e size v n xs) (hB:B'≤B):W.ownsRow B' e size v n xs:=by
 refine ⟨h.1,?_⟩
 rcases h.2 with h2 | ⟨g,cap,cur,hv,hg,rest⟩
 ·exact .inl h2
 ·exact .inr ⟨g,cap,cur,hv,by omega,rest⟩
theorem OwnU.owns {W:World} {B:Nat} {v:Value} {l:List Int} (h:OwnU W B v l):Owns W B [⟨25,1,v,l.length,u32s l⟩]:=⟨fun q hq=>by rw [List.mem_singleton.1 hq];exact h,List.pairwise_singleton _ _⟩
theorem OwnU.below {W W':World} {B:Nat} {v:Value} {l:List Int} (h:OwnU W B v l) (hb:Below W.heap.size W W'):OwnU W' B v l:=(h.owns.below hb).at_ (i:=0) rfl
theorem OwnU.alloc {W:World} {B:Nat} {v:Value} {l:List Int} (h:OwnU W B v l) (o:Obj):OwnU (W.alloc o) B v l:=(h.owns.alloc o).at_ (i:=0) rfl
theorem OwnU.slice {W:World} {B:Nat} {v:Value} {l:List Int} (h:OwnU W B v l):∃ A c,v=.slice A l.length c:=by
 obtain ⟨A,c,e,_,_⟩:=ownsRow_slice h
 exact ⟨A,c,e⟩
theorem app_u32 {ops:Array Oper} {rest:List Oper} {o:Oper} {a:Act} {Q:Exit→Act→World→Prop} (hgd:o.guard=none) (s x:Operand)
  (ho:o.op=.call { callee:=.builtin .append,args:=#[s,x],argTypes:=#[23,23] }) (W:World) (B:Nat) (v:Value) (l:List Int) (y:Int) (hs:a.eval s=v) (hO:OwnU W B v l) (hB:B≤W.heap.size)
  {g:Nat} (hx:a.eval x=.slice (some ⟨g,0,none⟩) 1 1) (hg:g=W.heap.size) (hk:l.length≤17592186043904)
  (h:∀ v' w',OwnU w' B v' (l ++ [y])→Below B W w'→wpList Tryz.prog ops Q rest (a.put o.dst v') w'):wpList Tryz.prog ops Q (o :: rest) a (W.alloc (.cells #[.int .u32 y] 25)):=by
 subst hg
 obtain ⟨i0,hi,hz0,hz1,hz2⟩:=info_parts info_u32p
 refine wpList_append_owns _ hgd s x 23 ho B _ 0 25 1 v l.length (u32s l) rfl (hO.owns.alloc _) (by rw [World.size_alloc];omega) i0 _ 4 Tryz.underlying23 hi hz0 hz1 hz2 rfl (by omega) hs _ _ 1 1 [.int .u32 y] hx (reads_new W 25 1 1 [.int .u32 y] rfl) (by simp [Value.oneCell']) (by simp only [maxLen];omega) (by omega) ?_
 intro v' w' hO' hb' _
 refine h v' w' ?_ (((Below.refl _ _).alloc hB _).trans hb')
 have:=hO'.at_ (i:=0) rfl
 unfold OwnU u32s
 rw [List.length_append,List.map_append]
 exact this
def PlcIs (x:ImgV) (w:World) (e:Ending) (w':World):Prop :=
 if begB x=true then ∃ v,e=.returned (.tuple #[v,.bool true])∧OwnU w' w.heap.size v (plc x)∧Below w.heap.size w w'
 else e=.returned (.tuple #[.slice none 0 0,.bool false])∧Below w.heap.size w w'
theorem plc_no {x:ImgV} {w w':World} (h:begB x=false) (hb:Below w.heap.size w w'):PlcIs x w (.returned (.tuple #[.slice none 0 0,.bool false])) w':=by
 unfold PlcIs;rw [if_neg (by rw [h];exact Bool.false_ne_true)];exact ⟨rfl,hb⟩
theorem plc_yes {x:ImgV} {w w':World} {v:Value} (h:begB x=true) (ho:OwnU w' w.heap.size v (plc x)) (hb:Below w.heap.size w w'):PlcIs x w (.returned (.tuple #[v,.bool true])) w':=by
 unfold PlcIs;rw [if_pos h];exact ⟨v,rfl,ho,hb⟩
theorem take_at {α β:Type} (f:α→β) {l:List α} {k:Nat} {t:α} (h:l[k]?=some t):(l.take (k+1)).map f=(l.take k).map f ++ [f t]:=by
 rw [List.take_add_one,h];simp
theorem takeU_at {l:List Int} {k:Nat} {t:Int} (h:l[k]?=some t):l.take (k+1)=l.take k ++ [t]:=by
 rw [List.take_add_one,h];simp
theorem takeF_at {α:Type} (p:α→Bool) (f:α→Int) {l:List α} {k:Nat} {t:α} (h:l[k]?=some t):((l.take (k+1)).filter p).map f=((l.take k).filter p).map f ++ (if p t=true then [f t] else []):=by
 rw [List.take_add_one,h,List.filter_append,List.map_append]
 congr 1
 cases hp:p t <;> simp [List.filter_cons,hp]
theorem jmpsB_of {x:ImgV} (h:jmpsB x=false):begB x=false:=by unfold begB;rw [h];rfl
theorem natB_of {x:ImgV} (h:natB x=false):begB x=false:=by unfold begB;rw [h,Bool.and_false]
set_option maxHeartbeats 16000000 in
theorem places_any (x:ImgV) (s:ImgS) (w:World) (hx:ImgOk x) (hr:ImgR w w.heap.size x s) (hbd:x.code.length≤16384∧x.jumps.length≤16384∧x.names.length≤64):Calls Tryz.prog 37 #[.agg (imgV x s)] w (PlcIs x w):=by
 obtain ⟨l1,l2,l4⟩:=hbd
 have l3:=hx.lens.2.2.1
 have HOK:=hide_ hx
 have HR:=hide_ hr
 obtain ⟨W1,hW1⟩:∃ W,W=w.alloc (.cells (imgV x s) 28):=⟨_,rfl⟩
 have HB1:=hide_ (show Below w.heap.size w W1 by rw [hW1];exact (Below.refl _ _).alloc (Nat.le_refl _) _)
 have HK1:=hide_ (show Blk W1 w.heap.size 28 (imgV x s) by rw [hW1];exact Blk.new w _ _)
 have hlt0:w.heap.size<W1.heap.size:=by rw [hW1];simp
 have HAT:=hide_ (fun W (hb:Below W1.heap.size W1 W)=>img_cells (HK1.out.below hb hlt0))
 have FIN:=hide_ (fun W (hb:Below W1.heap.size W1 W)=>show Below w.heap.size w W from HB1.out.trans (hb.mono (by omega)))
 have HRC:=hide_ (fun W (hb:Below W1.heap.size W1 W)=>HR.out.rc.below (FIN.out W hb))
 have HRJ:=hide_ (fun W (hb:Below W1.heap.size W1 W)=>HR.out.rj.below (FIN.out W hb))
 have HRN:=hide_ (fun W (hb:Below W1.heap.size W1 W)=>HR.out.rn.below (FIN.out W hb))
 have NO:=hide_ (fun W (h:begB x=false) (hb:Below W1.heap.size W1 W)=>plc_no h (FIN.out W hb))
 have YES:=hide_ (fun W v (h:begB x=true) (ho:OwnU W W1.heap.size v (plc x)) (hb:Below W1.heap.size W1 W)=>plc_yes h (own_lo ho (Nat.le_of_lt hlt0)) (FIN.out W hb))
 have ALLP:=hide_ (show allP x=x.jumps ++ x.names.map (·.at_) ++ (x.code.filter (stB x.code.length)).map (·.2) from rfl)
 clear HR HK1 HB1 hr hx
 unfold imgV at hW1 ⊢
 obtain ⟨⟨cA,cc⟩,⟨jA,jc⟩,⟨dA,dc⟩,⟨nA,nc⟩⟩:=s
 dsimp only at hW1 HAT HRC HRJ HRN ⊢
 obtain ⟨nC,hnC⟩:∃ n,n=x.code.length:=⟨_,rfl⟩
 obtain ⟨nJ,hnJ⟩:∃ n,n=x.jumps.length:=⟨_,rfl⟩
 obtain ⟨nN,hnN⟩:∃ n,n=x.names.length:=⟨_,rfl⟩
 rw [← hnC] at l1 HAT HRC hW1 ALLP ⊢
 rw [← hnJ] at l2 HAT HRJ hW1 ⊢
 rw [← hnN] at l4 HAT HRN hW1 ⊢
 have HN:=hide_ (And.intro hnC (And.intro hnJ hnN))
 clear hnC hnJ hnN
 go_enter Tryz.func37,Tryz.ntmps37
 go_upto_region 2 with (fail)
 rw [← hW1]
 clear hW1
 have HBW:=hide_ (Below.refl W1.heap.size W1)
 obtain ⟨f0,f1,f2,f3,f4,f5⟩:=HAT.out W1 HBW.out
 go_wp2_with fail
 clear f0 f1 f2 f3 f4 f5
 go_loopw [4,19] (fun v i wr=>∃ k:Nat,k≤nJ∧i=.int .i64 k∧Hid (OwnU wr W1.heap.size v (x.jumps.take k))∧Hid (∀ t,t<k→jmpOk x t=true)∧Hid (Below W1.heap.size W1 wr)) (fun _ i _=>nJ - (intOf i).toNat)
 case atStart=>exact ⟨0,Nat.zero_le _,rfl,hide_ (World.ownsRow_nil _ _ _ _),hide_ (fun t ht=>absurd ht (by omega)),HBW⟩
 case round =>
  clear HBW
  obtain ⟨k,hk,rfl,HO,HJ,HB⟩:=hrel
  obtain ⟨f0,f1,f2,f3,f4,f5⟩:=HAT.out wr HB.out
  by_cases hlt:k<nJ
  ·obtain ⟨j,hj⟩:∃ j,x.jumps[k]?=some j:=⟨_,List.getElem?_eq_getElem (by have:=HN.out.2.1;omega)⟩
   obtain ⟨j0,j1⟩:=HOK.out.jumps j (List.mem_of_getElem? hj)
   obtain ⟨ad,rfl,hbk,hcell⟩:=(HRJ.out wr HB.out).2 (by omega)
   have q0:=hcell k _ (u32s_get hj)
   have NEXT:=hide_ (takeU_at hj)
   have ONE:=hide_ (fun (h:jmpOk x k=true)=>show ∀ t,t<k+1→jmpOk x t=true from fun t ht=>(by
    by_cases e:t=k
    ·rw [e];exact h
    ·exact HJ.out t (by omega)))
   have BAD:=hide_ (fun (h:jmpOk x k=false)=>NO.out wr (jmpsB_of (jmpsB_no (by have:=HN.out.2.1;omega) h)) HB.out)
   have hlk:=HN.out.2.1
   have HTL:=hide_ (show (x.jumps.take k).length≤17592186043904 by have:=List.length_take_le k x.jumps;omega)
   clear hlk
   cases k with
   | zero =>
    have HOK0:=jmpOk_0 hj
    rw [← HN.out.1] at HOK0
    have q1:wr.cell? ad=some (.int .u32 j):=by simpa [Addr.add] using q0
    have z0:decide ((0:Int)<((0:Nat):Int))=false:=rfl
    by_cases hjn:j≤nC
    ·have c1:¬ (nC:Int)<j:=by omega
     have F:=hide_ (ONE.out (by rw [HOK0];exact decide_eq_true hjn))
     clear HOK0 hcell hj
     go_wp2_with (at_builtin;refine app_u32 rfl (.tmp 42) (.tmp 44) rfl wr W1.heap.size _ _ j rfl HO.out HB.out.size rfl rfl HTL.out ?_)
     intro v1 w1 hO1 hb1
     have HO1:=hide_ hO1
     have HB1:=hide_ (HB.out.trans hb1)
     clear hO1 hb1
     go_wp2
     go_roundw
     case rel=>exact ⟨0+1,by omega,by go_num,hide_ (by rw [NEXT.out];exact HO1.out),F,HB1⟩
     case measure=>simp [intOf] <;> omega
    ·have c1:(nC:Int)<j:=by omega
     have F:=hide_ (BAD.out (by rw [HOK0];exact decide_eq_false hjn))
     clear HOK0 hcell hj
     go_wp2
     go_ret2
     exact F.out
   | succ m =>
    obtain ⟨p,hp⟩:∃ p,x.jumps[m]?=some p:=⟨_,List.getElem?_eq_getElem (by have:=HN.out.2.1;omega)⟩
    have q1:=hcell m _ (u32s_get hp)
    have q2:wr.cell? ⟨ad.block,ad.off+(m+1),none⟩=some (.int .u32 j):=by simpa [Addr.add] using q0
    have HOK0:=jmpOk_s hj hp
    rw [← HN.out.1] at HOK0
    have z0:decide ((0:Int)<(m:Int)+1)=true:=decide_eq_true (by omega)
    by_cases hjn:j≤nC
    ·have c1:¬ (nC:Int)<j:=by omega
     by_cases hpj:p<j
     ·have c2:¬ j≤p:=by omega
      have F:=hide_ (ONE.out (by rw [HOK0,decide_eq_true hjn,decide_eq_true hpj];rfl))
      clear HOK0 hcell hj hp
      go_wp2_with (at_builtin;refine app_u32 rfl (.tmp 42) (.tmp 44) rfl wr W1.heap.size _ _ j rfl HO.out HB.out.size rfl rfl HTL.out ?_)
      intro v1 w1 hO1 hb1
      have HO1:=hide_ hO1
      have HB1:=hide_ (HB.out.trans hb1)
      clear hO1 hb1
      go_wp2
      go_roundw
      case rel=>exact ⟨m+1+1,by omega,by go_num,hide_ (by rw [NEXT.out];exact HO1.out),F,HB1⟩
      case measure=>simp [intOf] <;> omega
     ·have c2:j≤p:=by omega
      have F:=hide_ (BAD.out (by rw [HOK0,decide_eq_false hpj,Bool.and_false]))
      clear HOK0 hcell hj hp
      go_wp2
      go_ret2
      exact F.out
    ·have c1:(nC:Int)<j:=by omega
     have F:=hide_ (BAD.out (by rw [HOK0,decide_eq_false hjn];rfl))
     clear HOK0 hcell hj hp
     go_wp2
     go_ret2
     exact F.out
  ·obtain rfl:k=nJ:=by omega
   have JOK:=hide_ (show jmpsB x=true from jmpsB_all fun t ht=>HJ.out t (by rw [HN.out.2.1];exact ht))
   have HO2:=hide_ (show OwnU wr W1.heap.size u4 (x.jumps ++ (x.names.take 0).map (·.at_)) by
    have h9:=HO.out
    rw [List.take_of_length_le (by rw [HN.out.2.1];exact Nat.le_refl _)] at h9
    simpa using h9)
   clear HO HJ
   go_wp2_with fail
   obtain ⟨wo,rfl⟩:∃ wo:World,wo=wr:=⟨_,rfl⟩
   go_loopw [4,50] (fun v i wr=>∃ k:Nat,k≤nN∧i=.int .i64 k∧Hid (OwnU wr W1.heap.size v (x.jumps ++ (x.names.take k).map (·.at_)))∧Hid (∀ t,t<k→∀ e,x.names[t]?=some e→e.at_≤x.code.length)∧Hid (Below W1.heap.size W1 wr)) (fun _ i _=>nN - (intOf i).toNat)
   case atStart=>exact ⟨0,Nat.zero_le _,rfl,HO2,hide_ (fun t ht=>absurd ht (by omega)),HB⟩
   case round =>
    clear HO2 HB f0 f1 f2 f3 f4 f5
    obtain ⟨k,hk,rfl,HO,HA,HB⟩:=hrel
    obtain ⟨f0,f1,f2,f3,f4,f5⟩:=HAT.out wr HB.out
    have hbz:w.heap.size<wr.heap.size:=by have:=HB.out.size;omega
    by_cases hlt:k<nN
    ·obtain ⟨t,ht⟩:∃ t,x.names[k]?=some t:=⟨_,List.getElem?_eq_getElem (by have:=HN.out.2.2;omega)⟩
     obtain ⟨_,a0,a1⟩:=HOK.out.names t (List.mem_of_getElem? ht)
     obtain ⟨_,ad,rfl,hbk,p0,p1⟩:=el_cells xE_len (HRN.out wr HB.out) (by omega) ht
     have q0:=p0 _ rfl
     have q1:=p1 1 _ (by omega) rfl
     have NEXT:=hide_ (show x.jumps ++ (x.names.take (k+1)).map (·.at_)=x.jumps ++ (x.names.take k).map (·.at_) ++ [t.at_] by rw [take_at _ ht,List.append_assoc])
     have HTL:=hide_ (show (x.jumps ++ (x.names.take k).map (·.at_)).length≤17592186043904 by
      have:=List.length_take_le k x.names
      have:=HN.out.2.1
      rw [List.length_append,List.length_map]
      omega)
     have ONE:=hide_ (fun (h:t.at_≤x.code.length)=>show ∀ r,r<k+1→∀ e,x.names[r]?=some e→e.at_≤x.code.length from fun r hr e he=>(by
      by_cases h2:r=k
      ·rw [h2,ht] at he;injection he with he;rw [← he];exact h
      ·exact HA.out r (by omega) e he))
     have BAD:=hide_ (fun (h:¬ t.at_≤x.code.length) W hb=>NO.out W (natB_of (natB_no ht h)) hb)
     rw [← HN.out.1] at ONE BAD
     obtain ⟨nm,at_⟩:=t
     dsimp only at q0 q1 a0 a1 NEXT ONE BAD
     clear p0 p1 ht
     have HBA:=hide_ (HB.out.alloc HB.out.size (.cells #[.string nm,.int .u32 at_] 44))
     by_cases hjn:at_≤nC
     ·have c1:¬ (nC:Int)<at_:=by omega
      have F:=hide_ (ONE.out hjn)
      go_wp2_with (at_builtin;refine app_u32 rfl (.tmp 59) (.tmp 62) rfl (wr.alloc (.cells #[.string nm,.int .u32 at_] 44)) W1.heap.size _ _ at_ rfl (HO.out.alloc _) HBA.out.size rfl (by simp) HTL.out ?_)
      intro v1 w1 hO1 hb1
      have HO1:=hide_ hO1
      have HB1:=hide_ (HBA.out.trans hb1)
      clear hO1 hb1
      go_wp2
      go_roundw
      case rel=>exact ⟨k+1,by omega,by go_num,hide_ (by rw [NEXT.out];have h9:=HO1.out;simpa [List.map_take] using h9),by rw [HN.out.1] at F;exact F,HB1⟩
      case measure=>simp [intOf] <;> omega
     ·have c1:(nC:Int)<at_:=by omega
      have F:=hide_ (BAD.out hjn _ HBA.out)
      go_wp2
      go_ret2
      exact F.out
    ·obtain rfl:k=nN:=by omega
     have NOK:=hide_ (show begB x=true by
      unfold begB natB
      rw [JOK.out,Bool.true_and,List.all_eq_true]
      intro e he
      obtain ⟨r,hr⟩:=List.mem_iff_getElem?.1 he
      exact decide_eq_true (HA.out r (by have:=(List.getElem?_eq_some_iff.1 hr).1;have:=HN.out.2.2;omega) e hr))
     have HO2:=hide_ (show OwnU wr W1.heap.size u4 (x.jumps ++ x.names.map (·.at_) ++ ((x.code.take 0).filter (stB nC)).map (·.2)) by
      have h9:=HO.out
      rw [List.take_of_length_le (by rw [HN.out.2.2];exact Nat.le_refl _)] at h9
      simpa using h9)
     clear HO HA
     go_wp2_with fail
     obtain ⟨wo2,rfl⟩:∃ wo:World,wo=wr:=⟨_,rfl⟩
     go_loopw [4,68] (fun v i wr=>∃ k:Nat,k≤nC∧i=.int .i64 k∧Hid (OwnU wr W1.heap.size v (x.jumps ++ x.names.map (·.at_) ++ ((x.code.take k).filter (stB nC)).map (·.2)))∧Hid (Below W1.heap.size W1 wr)) (fun _ i _=>nC - (intOf i).toNat)
     case atStart=>exact ⟨0,Nat.zero_le _,rfl,HO2,HB⟩
     case round =>
      clear HO2 HB f0 f1 f2 f3 f4 f5 hbz
      obtain ⟨k,hk,rfl,HO,HB⟩:=hrel
      obtain ⟨f0,f1,f2,f3,f4,f5⟩:=HAT.out wr HB.out
      have hbz:w.heap.size<wr.heap.size:=by have:=HB.out.size;omega
      have HTL:=hide_ (show (x.jumps ++ x.names.map (·.at_) ++ ((x.code.take k).filter (stB nC)).map (·.2)).length≤17592186043904 by
       have:=List.length_take_le k x.code
       have:=List.length_filter_le (stB nC) (x.code.take k)
       have:=HN.out.2
       rw [List.length_append,List.length_append,List.length_map,List.length_map]
       omega)
      by_cases hlt:k<nC
      ·obtain ⟨t,ht⟩:∃ t,x.code[k]?=some t:=⟨_,List.getElem?_eq_getElem (by have:=HN.out.1;omega)⟩
       obtain ⟨_,a0,a1⟩:=HOK.out.code t (List.mem_of_getElem? ht)
       obtain ⟨_,ad,rfl,hbk,p0,p1⟩:=el_cells cE_len (HRC.out wr HB.out) (by omega) ht
       have q0:=p0 _ rfl
       have q1:=p1 1 _ (by omega) rfl
       have NEXT:=hide_ (congrArg (fun q=>x.jumps ++ x.names.map (·.at_) ++ q) (takeF_at (stB nC) (·.2) ht))
       obtain ⟨op,arg⟩:=t
       dsimp only at q0 q1 a0 a1 NEXT
       have HST:=hide_ (fun W=>static_any op arg nC W a0 a1 (by omega))
       obtain ⟨b,hb⟩:∃ b,b=stB nC (op,arg):=⟨_,rfl⟩
       rw [← hb] at HST NEXT
       clear hb p0 p1 ht
       have HBA:=hide_ (HB.out.alloc HB.out.size (.cells #[.int .u8 op,.int .u32 arg] 66))
       have e1:(wr.alloc (.cells #[.int .u8 op,.int .u32 arg] 66)).cell? ⟨wr.heap.size,1,none⟩=some (.int .u32 arg):=by simp
       go_wp2_with fail
       refine (HST.out _).mono ?_
       rintro e w3 ⟨rfl,hb3⟩
       have e1:=(hb3.cell (p:=⟨wr.heap.size,1,none⟩) (by simp)).trans e1
       have HO3:=hide_ ((HO.out.alloc (.cells #[.int .u8 op,.int .u32 arg] 66)).below hb3)
       have HB3:=hide_ (HBA.out.trans (hb3.mono HBA.out.size))
       clear hb3 f0 f1 f2 f3 f4 f5 q0 q1 HO HB HBA
       cases b with
       | true =>
        go_wp2_with (at_builtin;refine app_u32 rfl (.tmp 77) (.tmp 80) rfl w3 W1.heap.size _ _ arg rfl HO3.out HB3.out.size rfl rfl HTL.out ?_)
        intro v1 w4 hO1 hb1
        have HO1:=hide_ hO1
        have HB1:=hide_ (HB3.out.trans hb1)
        clear hO1 hb1
        go_wp2
        go_roundw
        case rel=>exact ⟨k+1,by omega,by go_num,hide_ (by have h9:=HO1.out;have h8:=NEXT.out;simp only [if_true] at h8;rw [h8];simpa using h9),HB1⟩
        case measure=>simp [intOf] <;> omega
       | false =>
        go_wp2
        go_roundw
        case rel=>exact ⟨k+1,by omega,by go_num,hide_ (by have h9:=HO3.out;have h8:=NEXT.out;simp only [Bool.false_eq_true,if_false,List.append_nil] at h8;rw [h8];exact h9),HB3⟩
        case measure=>simp [intOf] <;> omega
      ·obtain rfl:k=nC:=by omega
       have HO2:=hide_ (show OwnU wr W1.heap.size u4 (allP x) by
        have h9:=HO.out
        rw [List.take_of_length_le (by rw [HN.out.1];exact Nat.le_refl _)] at h9
        rw [ALLP.out]
        exact h9)
       have HTA:=hide_ (show (allP x).length<4611686018427387904 by
        have h9:=HTL.out
        rw [List.take_of_length_le (by rw [HN.out.1];exact Nat.le_refl _),← ALLP.out] at h9
        omega)
       have HTM:=hide_ (show ((allP x).mergeSort fun a b=>decide (a≤b)).length=(allP x).length from List.length_mergeSort _)
       clear HO HTL f0 f1 f2 f3 f4 f5
       go_wp2_with fail
       refine (srt_row (B:=W1.heap.size) (ix:=0) (rs:=[⟨25,1,_,(allP x).length,u32s (allP x)⟩]) rfl HO2.out.owns HTA.out).mono ?_
       rintro e w3 ⟨rfl,hO3,hb3⟩
       have HB3:=hide_ (HB.out.trans hb3)
       have HO3:=hide_ (show Owns w3 W1.heap.size [⟨25,1,u4,((allP x).mergeSort fun a b=>decide (a≤b)).length,((allP x).mergeSort fun a b=>decide (a≤b)).map (Value.int .u32)⟩] by rw [HTM.out];exact hO3)
       clear hO3 hb3 HO2 HB
       go_wp2_with fail
       refine (cpt_row (B:=W1.heap.size) (ix:=0) (rs:=[⟨25,1,_,_,_⟩]) rfl HO3.out HB3.out.size (by rw [HTM.out];exact HTA.out)).mono ?_
       rintro e w4 ⟨v',rfl,hO4,hb4⟩
       have F:=hide_ (YES.out w4 v' NOK.out (hO4.at_ (i:=0) rfl) (HB3.out.trans hb4))
       clear hO4 hb4
       go_wp2
       go_ret2
       exact F.out
end Go.Proofs.YtikbegmodacopaaGreatDoor
namespace Go.Proofs.YtikbegmodacopaaGreatDoor
set_option maxRecDepth 100000
open Go.RowKit
set_option linter.unusedVariables false
def rowsF (K:Nat) (r:Nat→Ro):List Ro:=(List.range K).map r
def updR (r:Nat→Ro) (k:Nat) (x:Ro):Nat→Ro:=fun j=>if j=k then x else r j
theorem rowsF_len (K:Nat) (r:Nat→Ro):(rowsF K r).length=K:=by simp [rowsF]
theorem rowsF_get {K k:Nat} (r:Nat→Ro) (ex:List Ro) (hk:k<K):(rowsF K r ++ ex)[k]?=some (r k):=by
 rw [List.getElem?_append_left (by rw [rowsF_len];exact hk)]
 simp [rowsF,hk]
theorem rowsF_ex {K:Nat} (r:Nat→Ro) (x:Ro) (ex:List Ro) (j:Nat):(rowsF K r ++ x :: ex)[K+j]?=(x :: ex)[j]?:=by
 rw [List.getElem?_append_right (by rw [rowsF_len];omega),rowsF_len,Nat.add_sub_cancel_left]
theorem rowsF_set {K k:Nat} (r:Nat→Ro) (ex:List Ro) (x:Ro) (hk:k<K):(rowsF K r ++ ex).set k x=rowsF K (updR r k x) ++ ex:=by
 rw [List.set_append_left _ _ (by rw [rowsF_len];exact hk)]
 congr 1
 apply List.ext_getElem?
 intro j
 rw [List.getElem?_set]
 by_cases hj:k=j
 ·subst hj
  simp [rowsF,updR,hk]
 ·rw [if_neg hj]
  by_cases hjK:j<K
  ·simp [rowsF,updR,hjK,Ne.symm hj]
  ·simp [rowsF,hjK]
theorem rowsF_congr {K:Nat} {r s:Nat→Ro} (h:∀ j,j<K→r j=s j):rowsF K r=rowsF K s:=by
 unfold rowsF
 exact List.map_congr_left (fun j hj=>h j (List.mem_range.1 hj))
section
variable {P:Program} (w:World)
theorem run_append_split (base:Nat) (t ty e:TypeId) (i:TypeInfo) (z:Value) (bytes:Nat) (ht:P.underlying t=some (.slice e)) (hi:P.info? e=some i) (hz:i.zero=some z)
  (hsize:i.size=1) (hby:i.bytes=bytes) (hzs:z.cells.size=1)
  (v:Value) (n:Nat) (xs:List Value) (hown:w.ownsRow base e 1 v n xs)
  (B:Nat) (A:Option Addr) (m c:Nat) (news:List Value) (hr:Reads w B 1 A m news) (h1:∀ u ∈ news,u.oneCell'=true) (hm:0<m)
  (h63:n+m≤maxLen) (hbytes:(n+m) * bytes≤140737488355328) (hbase:base≤w.heap.size) :
  ∃ v' w',(Builtin.append_ #[t,t] ty #[v,.slice A m c]).run P w=.ok v' w'∧w'.ownsRow base e 1 v' (n+m) (xs ++ news)∧w.grownBy w' v.ownBlock ∧
   ((v'.ownBlock=v.ownBlock∧v.ownBlock≠none)∨(Below w.heap.size w w'∧w'.ownsRow w.heap.size e 1 v' (n+m) (xs ++ news))):=by
 obtain ⟨v',w',hrun,h2,h3,h4⟩:=run_append_any (P:=P) w base t ty e i z 1 bytes ht hi hz hsize hby hzs (by omega) v n xs hown B A m c news hr h1 h63 hbytes hbase
 refine ⟨v',w',hrun,h2,h3,?_⟩
 rcases hown.2 with ⟨rfl,hn⟩ | ⟨g,cap,cur,rfl,hg0,hg,hnc,hcm,hcs,htake⟩
 ·subst hn
  have hxs:xs=[]:=List.eq_nil_of_length_eq_zero (by simpa using hown.1)
  subst hxs
  obtain ⟨v2,w2,hrun2,k2,k3,_⟩:=run_append_any (P:=P) w w.heap.size t ty e i z 1 bytes ht hi hz hsize hby hzs (by omega) _ 0 [] (World.ownsRow_nil _ _ _ _) B A m c news hr h1 h63 hbytes (Nat.le_refl _)
  rw [hrun] at hrun2
  injection hrun2 with e1 e2
  subst e1 e2
  exact .inr ⟨(Below.refl _ w).grown k3 (Nat.le_refl _) (fun k e=>by cases e),k2⟩
 ·obtain ⟨ad,rfl,hadB,hcells⟩:=hr.2 hm
  have hl:=hr.1
  by_cases hroom:n+m≤cap
  ·have hrun2:=run_append_room (P:=P) w t ty e i ht hi g n cap cur hg ad m c news (by rw [hsize];exact hl) hcells h1 hroom (by rw [hsize,hl,hcs];omega)
   rw [hrun] at hrun2
   injection hrun2 with e1 e2
   subst e1
   exact .inl ⟨rfl,by simp [Value.ownBlock]⟩
  ·have hmx:n+m≤9223372036854775807:=by simp only [maxLen] at h63;omega
   have hrun2:=run_append_grow (P:=P) w t ty e i z ht hi hz ⟨g,0,none⟩ n cap xs (by rw [hsize];exact hown.1) (hown.cells (g:=g) rfl) ad m c news (by rw [hsize];exact hl) hcells (by omega) (by omega) (growslice_fits (by omega) (by rw [hby];exact hbytes))
   rw [hrun] at hrun2
   injection hrun2 with e1 e2
   subst e1 e2
   refine .inr ⟨(Below.refl _ w).drew.alloc (Nat.le_refl _) _,?_⟩
   obtain ⟨k1,k2⟩:=h2
   refine ⟨k1,?_⟩
   rcases k2 with ⟨h5,_⟩ | ⟨g',cap',cur',hv,_,hrest⟩
   ·cases h5
   ·injection hv with hv1 hv2 hv3
    injection hv1 with hv1
    injection hv1 with hv1
    subst hv1 hv3
    exact .inr ⟨_,_,cur',rfl,Nat.le_refl _,hrest⟩
end
theorem set_perm {α:Type} (l:List α):∀ (k:Nat) (x y:α),l[k]?=some y→(l ++ [x]).Perm (l.set k x ++ [y]):=by
 induction l with
 | nil=>intro k x y h;simp at h
 | cons a l ih =>
  intro k x y h
  cases k with
  | zero =>
   simp only [List.getElem?_cons_zero,Option.some.injEq] at h
   subst h
   simp only [List.set_cons_zero,List.cons_append]
   exact (List.perm_append_comm (l₁:=a :: l) (l₂:=[x])).trans ((List.Perm.cons x (List.perm_append_comm (l₁:=[a]) (l₂:=l))))
  | succ k =>
   simp only [List.getElem?_cons_succ] at h
   simp only [List.set_cons_succ,List.cons_append]
   exact (ih k x y h).cons a
end Go.Proofs.YtikbegmodacopaaGreatDoor
namespace Go.Proofs.YtikbegmodacopaaGreatDoor
set_option maxRecDepth 100000
open Go.RowKit
set_option linter.unusedVariables false
section
variable {P:Program} (w:World)
theorem run_append_splitK (base:Nat) (t ty e:TypeId) (i:TypeInfo) (z:Value) (size bytes:Nat) (hsz:0<size) (ht:P.underlying t=some (.slice e)) (hi:P.info? e=some i) (hz:i.zero=some z)
  (hsize:i.size=size) (hby:i.bytes=bytes) (hzs:z.cells.size=size)
  (v:Value) (n:Nat) (xs:List Value) (hown:w.ownsRow base e size v n xs)
  (B:Nat) (A:Option Addr) (m c:Nat) (news:List Value) (hr:Reads w B size A m news) (h1:∀ u ∈ news,u.oneCell'=true) (hm:0<m)
  (h63:n+m≤maxLen) (hbytes:(n+m) * bytes≤140737488355328) (hbase:base≤w.heap.size) :
  ∃ v' w',(Builtin.append_ #[t,t] ty #[v,.slice A m c]).run P w=.ok v' w'∧w'.ownsRow base e size v' (n+m) (xs ++ news)∧w.grownBy w' v.ownBlock ∧
   ((v'.ownBlock=v.ownBlock∧v.ownBlock≠none)∨(Below w.heap.size w w'∧w'.ownsRow w.heap.size e size v' (n+m) (xs ++ news))):=by
 obtain ⟨v',w',hrun,h2,h3,h4⟩:=run_append_any (P:=P) w base t ty e i z size bytes ht hi hz hsize hby hzs hsz v n xs hown B A m c news hr h1 h63 hbytes hbase
 refine ⟨v',w',hrun,h2,h3,?_⟩
 rcases hown.2 with ⟨rfl,hn⟩ | ⟨g,cap,cur,rfl,hg0,hg,hnc,hcm,hcs,htake⟩
 ·subst hn
  have hxs:xs=[]:=List.eq_nil_of_length_eq_zero (by simpa using hown.1)
  subst hxs
  obtain ⟨v2,w2,hrun2,k2,k3,_⟩:=run_append_any (P:=P) w w.heap.size t ty e i z size bytes ht hi hz hsize hby hzs hsz _ 0 [] (World.ownsRow_nil _ _ _ _) B A m c news hr h1 h63 hbytes (Nat.le_refl _)
  rw [hrun] at hrun2
  injection hrun2 with e1 e2
  subst e1 e2
  exact .inr ⟨(Below.refl _ w).grown k3 (Nat.le_refl _) (fun k e=>by cases e),k2⟩
 ·obtain ⟨ad,rfl,hadB,hcells⟩:=hr.2 hm
  have hl:=hr.1
  by_cases hroom:n+m≤cap
  ·have hrun2:=run_append_room (P:=P) w t ty e i ht hi g n cap cur hg ad m c news (by rw [hsize];exact hl) hcells h1 hroom (by rw [hsize,hl,hcs,← Nat.add_mul];exact Nat.mul_le_mul_right _ hroom)
   rw [hrun] at hrun2
   injection hrun2 with e1 e2
   subst e1
   exact .inl ⟨rfl,by simp [Value.ownBlock]⟩
  ·have hmx:n+m≤9223372036854775807:=by simp only [maxLen] at h63;omega
   have hrun2:=run_append_grow (P:=P) w t ty e i z ht hi hz ⟨g,0,none⟩ n cap xs (by rw [hsize];exact hown.1) (hown.cells (g:=g) rfl) ad m c news (by rw [hsize];exact hl) hcells (by omega) (by omega) (growslice_fits (by omega) (by rw [hby];exact hbytes))
   rw [hrun] at hrun2
   injection hrun2 with e1 e2
   subst e1 e2
   refine .inr ⟨(Below.refl _ w).drew.alloc (Nat.le_refl _) _,?_⟩
   obtain ⟨k1,k2⟩:=h2
   refine ⟨k1,?_⟩
   rcases k2 with ⟨h5,_⟩ | ⟨g',cap',cur',hv,_,hrest⟩
   ·cases h5
   ·injection hv with hv1 hv2 hv3
    injection hv1 with hv1
    injection hv1 with hv1
    subst hv1 hv3
    exact .inr ⟨_,_,cur',rfl,Nat.le_refl _,hrest⟩
end
theorem wpList_append_splitK {P:Program} (w:World) {ops:Array Oper} {rest:List Oper} {o:Oper} {a:Act} {Q:Exit→Act→World→Prop} (hgd:o.guard=none) (s x:Operand) (t:TypeId)
  (ho:o.op=.call { callee:=.builtin .append,args:=#[s,x],argTypes:=#[t,t] })
  (B:Nat) (rs:List Ro) (k:Nat) (e:TypeId) (size:Nat) (v:Value) (n:Nat) (xs:List Value) (hr:rs[k]?=some ⟨e,size,v,n,xs⟩) (hO:Owns w B rs) (hB:B≤w.heap.size)
  (i:TypeInfo) (z:Value) (bytes:Nat) (hsz:0<size) (ht:P.underlying t=some (.slice e)) (hi:P.info? e=some i) (hz:i.zero=some z)
  (hsize:i.size=size) (hby:i.bytes=bytes) (hzs:z.cells.size=size)
  (hs:a.eval s=v)
  (B':Nat) (A:Option Addr) (m c:Nat) (news:List Value) (hx:a.eval x=.slice A m c) (hn:Reads w B' size A m news) (h1:∀ u ∈ news,u.oneCell'=true) (hm:0<m)
  (h63:n+m≤maxLen) (hbytes:(n+m) * bytes≤140737488355328)
  (h:∀ v' w',((v'.ownBlock=v.ownBlock∧Owns w' B (rs.set k ⟨e,size,v',n+m,xs ++ news⟩))∨Owns w' B (rs.set k ⟨e,size,v',n+m,xs ++ news⟩ ++ [⟨e,size,v,n,xs⟩]))→Below B w w'→w.heap.size≤w'.heap.size→wpList P ops Q rest (a.put o.dst v') w'):wpList P ops Q (o :: rest) a w:=by
 refine wpList_plain hgd fun K hK=>?_
 obtain ⟨v',w',hrun,hown,hg,hat⟩:=run_append_splitK (P:=P) w B t o.type e i z size bytes hsz ht hi hz hsize hby hzs v n xs (hO.at_ hr) B' A m c news hn h1 hm h63 hbytes hB
 unfold Oper.wp execOp
 simp only [ho,resolve,invoke,builtin,Sem.run_bind,Sem.run_pure,Result.andThen_ok,List.map_toArray,List.map_cons,List.map_nil,hs,hx,hrun]
 refine hK _ _ (h v' w' ?_ ((Below.refl _ _).grown hg hB (fun j hj=>(hO.lt_ (List.mem_of_getElem? hr) hj).1)) hg.size)
 rcases hat with ⟨h2,_⟩ | ⟨h2,h3⟩
 ·exact .inl ⟨h2,hO.turn hr hg hown (.inl h2)⟩
 ·exact .inr ((hO.push h2 (r:=⟨e,size,v',n+m,xs ++ news⟩) h3 hB).swap (set_perm rs k _ _ hr))
theorem Owns.nilrow {w:World} {B:Nat} {rs:List Ro} (h:Owns w B rs) (e:TypeId) (size:Nat):Owns w B (rs ++ [⟨e,size,.slice none 0 0,0,[]⟩]):=by
 refine ⟨fun r hr=>?_,?_⟩
 ·rcases List.mem_append.1 hr with hr | hr
  ·exact h.1 r hr
  ·rw [List.mem_singleton.1 hr]
   exact World.ownsRow_nil _ _ _ _
 ·rw [List.pairwise_append]
  refine ⟨h.2,List.pairwise_singleton _ _,fun r _ s hs=>?_⟩
  rw [List.mem_singleton.1 hs]
  cases hv:r.v.ownBlock with
  | none=>exact .inl rfl
  | some k=>right;simp [Value.ownBlock]
theorem Owns.pick {w:World} {B:Nat} {l m:List Ro} (h:Owns w B l) (d:List Ro)
  (hc:∀ (cnt:List Ro→Nat) (one:Ro→Nat),(∀ x y,cnt (x ++ y)=cnt x+cnt y)→(∀ x l,cnt (x :: l)=one x+cnt l)→cnt []=0→cnt l=cnt d+cnt m):Owns w B m:=by
 classical
 have hp:l.Perm (d ++ m):=List.perm_iff_count.2 fun a=>by
  rw [List.count_append]
  exact hc (fun l=>List.count a l) (fun x=>if x == a then 1 else 0) (fun x y=>List.count_append) (fun x l=>by rw [List.count_cons];omega) rfl
 exact (h.swap hp).sub (List.sublist_append_right _ _)
theorem Owns.perm {w:World} {B:Nat} {l m:List Ro} (h:Owns w B l)
  (hc:∀ (cnt:List Ro→Nat) (one:Ro→Nat),(∀ x y,cnt (x ++ y)=cnt x+cnt y)→(∀ x l,cnt (x :: l)=one x+cnt l)→cnt []=0→cnt l=cnt m):Owns w B m :=
 h.pick [] fun cnt one h1 h2 h3=>by rw [h3,hc cnt one h1 h2 h3];omega
end Go.Proofs.YtikbegmodacopaaGreatDoor
namespace Go.Proofs.YtikbegmodacopaaGreatDoor
open Go.RowKit Go.PlainAid Go.BigFrame
set_option linter.unusedSimpArgs false
set_option linter.unusedVariables false
set_option maxRecDepth 100000
def markB:ByteArray:=⟨#[109,97,114,107]⟩
def mkL (i:Nat):LabV:=⟨markB,0,i,false⟩
def mkF (i:Nat):FixV:=⟨0,i,markB,0⟩
def mkE (i:Nat):EntV:=⟨markB,textOf [i]⟩
def marksL (n:Nat):List LabV:=(List.range n).map mkL
def marksF (n:Nat):List FixV:=(List.range n).map mkF
def marksE (n:Nat):List EntV:=(List.range n).map mkE
theorem lab_info:(Tryz.prog.info? 78).map (fun i=>(i.zero,i.size,i.bytes))=some (some (.agg #[.string ⟨#[]⟩,.int .u8 0,.int .u32 0,.bool false]),4,32):=by kernel_rfl
theorem fix_info:(Tryz.prog.info? 81).map (fun i=>(i.zero,i.size,i.bytes))=some (some (.agg #[.int .u8 0,.int .u32 0,.string ⟨#[]⟩,.int .u32 0]),4,32):=by kernel_rfl
theorem ent_info:(Tryz.prog.info? 83).map (fun i=>(i.zero,i.size,i.bytes))=some (some (.agg #[.string ⟨#[]⟩,.string ⟨#[]⟩]),2,32):=by kernel_rfl
theorem z8_max:(#[.slice none 0 0,.slice none 0 0,.int .u32 0,.int .u32 0,.slice none 0 0,.slice none 0 0,.slice none 0 0,.slice none 0 0]:Array Value).size≤maxLen:=by simp [maxLen]
theorem lent_drew {W:World} {B:Nat} {rs:List Ro} (h:Owns W B rs∧B≤W.heap.size):Owns W.drew B rs∧B≤W.drew.heap.size:=h
theorem lent_push {W W':World} {B n size:Nat} {rs:List Ro} {e:TypeId} {v:Value} {xs:List Value} (h:Owns W B rs∧B≤W.heap.size) (hb:Below W.heap.size W W') (hr:W'.ownsRow W.heap.size e size v n xs):Owns W' B (rs ++ [⟨e,size,v,n,xs⟩])∧B≤W'.heap.size :=
 ⟨h.1.push hb (r:=⟨e,size,v,n,xs⟩) hr h.2,Nat.le_trans h.2 hb.size⟩
theorem lent_box {W:World} {B:Nat} {rs:List Ro} (h:Owns W B rs∧B≤W.heap.size):Owns (W.alloc (.cells #[.slice none 0 0,.slice none 0 0,.int .u32 0,.int .u32 0,.slice none 0 0,.slice none 0 0,.slice none 0 0,.slice none 0 0] 36)) B (rs ++ [⟨36,1,.slice (some ⟨W.heap.size,0,none⟩) 8 8,8,[.slice none 0 0,.slice none 0 0,.int .u32 0,.int .u32 0,.slice none 0 0,.slice none 0 0,.slice none 0 0,.slice none 0 0]⟩])∧B≤(W.alloc (.cells #[.slice none 0 0,.slice none 0 0,.int .u32 0,.int .u32 0,.slice none 0 0,.slice none 0 0,.slice none 0 0,.slice none 0 0] 36)).heap.size :=
 ⟨h.1.box 36 #[.slice none 0 0,.slice none 0 0,.int .u32 0,.int .u32 0,.slice none 0 0,.slice none 0 0,.slice none 0 0,.slice none 0 0] h.2 z8_max,by have:=h.2;simp;omega⟩
theorem box_new {W:World} {B:Nat} {rs:List Ro} (h:Owns W B rs∧B≤W.heap.size):Blk (W.alloc (.cells #[.slice none 0 0,.slice none 0 0,.int .u32 0,.int .u32 0,.slice none 0 0,.slice none 0 0,.slice none 0 0,.slice none 0 0] 36)) W.heap.size 36 #[.slice none 0 0,.slice none 0 0,.int .u32 0,.int .u32 0,.slice none 0 0,.slice none 0 0,.slice none 0 0,.slice none 0 0]∧B≤W.heap.size:=⟨Blk.new _ _ _,h.2⟩
theorem box_drew {W:World} {g B:Nat} {t:TypeId} {cs:Array Value} (h:Blk W g t cs∧B≤g):Blk W.drew g t cs∧B≤g:=h
theorem box_below {W W':World} {g B:Nat} {t:TypeId} {cs:Array Value} (h:Blk W g t cs∧B≤g) (hb:Below W.heap.size W W'):Blk W' g t cs∧B≤g:=⟨h.1.below hb h.1.lt,h.2⟩
theorem box_st {W:World} {g B:Nat} {cs:Array Value} (h:Blk W g 36 #[.slice none 0 0,.slice none 0 0,.int .u32 0,.int .u32 0,.slice none 0 0,.slice none 0 0,.slice none 0 0,.slice none 0 0]∧B≤g) (hs:cs.size=8) (h1:cs.all (·.oneCell')=true):(storeVar 36 ⟨g,0,none⟩ (.agg cs)).run Tryz.prog W=.ok () (W.setRow g cs) :=
 run_storeVar_row (P:=Tryz.prog) W g 36 36 _ cs h.1 (by rw [hs];kernel_rfl) (by rw [hs];rfl) h1
theorem Owns.rerow {W:World} {B i g n:Nat} {rs:List Ro} {e:TypeId} {xs:List Value} (h:Owns W B rs) (hr:rs[i]?=some ⟨e,1,.slice (some ⟨g,0,none⟩) n n,n,xs⟩) (cs:Array Value) (hs:cs.size=n) :
  Owns (W.setRow g cs) B (rs.set i ⟨e,1,.slice (some ⟨g,0,none⟩) n n,n,cs.toList⟩):=by
 have h1:=h.at_ hr
 have hb:=own_blk h1
 have hB:=(h.base hr).1
 have hm:n≤maxLen:=by
  rcases h1.2 with ⟨h2,_⟩ | ⟨g',cap,cur,hv,_,_,hn,hm,_⟩
  ·cases h2
  ·exact Nat.le_trans hn hm
 subst hs
 refine h.turn hr ⟨rfl,rfl,rfl,by simp [World.setRow],fun k _ hk=>setRow_other W g k cs (fun e=>hk (by rw [e];rfl))⟩ (r':=⟨e,1,.slice (some ⟨g,0,none⟩) cs.size cs.size,cs.size,cs.toList⟩) (blk_own (setRow_heap W g _ cs e (0,0) hb) hB hm) (.inl rfl)
theorem Owns.box8 {W:World} {B:Nat} {rs:List Ro} (h:Owns W B rs∧B≤W.heap.size) (v0 v1 v2 v3 v4 v5 v6 v7:Value) :
  Owns (W.alloc (.cells #[v0,v1,v2,v3,v4,v5,v6,v7] 36)) B (rs ++ [⟨36,1,.slice (some ⟨W.heap.size,0,none⟩) 8 8,8,[v0,v1,v2,v3,v4,v5,v6,v7]⟩]) :=
 h.1.box 36 #[v0,v1,v2,v3,v4,v5,v6,v7] h.2 (by simp [maxLen])
theorem Owns.re8 {W:World} {B i g:Nat} {rs:List Ro} {e:TypeId} {xs:List Value} (h:Owns W B rs) (hr:rs[i]?=some ⟨e,1,.slice (some ⟨g,0,none⟩) 8 8,8,xs⟩) (v0 v1 v2 v3 v4 v5 v6 v7:Value) :
  Owns (W.setRow g #[v0,v1,v2,v3,v4,v5,v6,v7]) B (rs.set i ⟨e,1,.slice (some ⟨g,0,none⟩) 8 8,8,[v0,v1,v2,v3,v4,v5,v6,v7]⟩):=h.rerow hr #[v0,v1,v2,v3,v4,v5,v6,v7] rfl
def Box8 (W:World) (g:Nat):Prop:=∃ cs:Array Value,Blk W g 36 cs∧cs.size=8
theorem Box8.drew {W:World} {g:Nat} (h:Box8 W g):Box8 W.drew g:=h
theorem Box8.alloc {W:World} {g:Nat} (h:Box8 W g) (o:Obj):Box8 (W.alloc o) g:=by
 obtain ⟨cs,h1,h2⟩:=h
 exact ⟨cs,h1.alloc o,h2⟩
theorem Box8.below {W W':World} {g B:Nat} (h:Box8 W g) (hb:Below B W W') (hg:g<B):Box8 W' g:=by
 obtain ⟨cs,h1,h2⟩:=h
 exact ⟨cs,h1.below hb hg,h2⟩
theorem Box8.st {W:World} {g:Nat} (h:Box8 W g) {cs:Array Value} (hs:cs.size=8) (h1:cs.all (·.oneCell')=true):(storeVar 36 ⟨g,0,none⟩ (.agg cs)).run Tryz.prog W=.ok () (W.setRow g cs):=by
 obtain ⟨c,h2,h3⟩:=h
 exact run_storeVar_row (P:=Tryz.prog) W g 36 36 _ cs h2 (by rw [hs];kernel_rfl) (by rw [hs,h3]) h1
theorem Box8.far {W:World} {g k:Nat} (h:Box8 W g) (hk:g≠k) (cs:Array Value):Box8 (W.setRow k cs) g:=by
 obtain ⟨c,h2,h3⟩:=h
 exact ⟨c,(setRow_other W k g cs hk).trans h2,h3⟩
theorem Box8.set {W:World} {g:Nat} (h:Box8 W g) {cs:Array Value} (hs:cs.size=8):Box8 (W.setRow g cs) g:=by
 obtain ⟨c,h2,h3⟩:=h
 exact ⟨cs,setRow_heap W g _ cs _ (0,0) h2,hs⟩
theorem below_swap {B:Nat} {W:World} (h:B≤W.heap.size) (o o':Obj):Below B (W.alloc o) (W.alloc o') :=
 ⟨rfl,rfl,rfl,by simp,fun k hk=>by rw [Below.heap_alloc _ _ _ (by omega),Below.heap_alloc _ _ _ (by omega)]⟩
theorem Owns.keepB {w w':World} {B:Nat} {rs:List Ro} (h:Owns w B rs) (hb:∀ k,B≤k→k<w.heap.size→w'.heap[k]?=w.heap[k]?):Owns w' B rs :=
 ⟨fun r hr=>by
   have h1:=h.1 r hr
   refine ⟨h1.1,?_⟩
   rcases h1.2 with h2 | ⟨g,cap,cur,hv,hB,hg,rest⟩
   ·exact .inl h2
   ·exact .inr ⟨g,cap,cur,hv,hB,(hb g hB (Array.getElem?_eq_some_iff.1 hg).1).trans hg,rest⟩,h.2⟩
structure LS (b g m:Nat) (F L:Array Value) (rs:List Ro) (w W:World):Prop where
 bg:Blk W g 36 F
 bm:Blk W m 36 L
 x1:Box8 W (b+1)
 x2:Box8 W (b+2)
 ow:Owns W (b+3) rs
 bl:Below b w W
 ng:b+3≤g
 nm:b+3≤m
section
variable {b g m:Nat} {F L:Array Value} {rs:List Ro} {w W:World}
theorem LS.drew (h:LS b g m F L rs w W):LS b g m F L rs w W.drew:=⟨h.bg,h.bm,h.x1,h.x2,h.ow,h.bl.drew,h.ng,h.nm⟩
end
noncomputable def fullO (x:ObjV):ObjV:=⟨x.code ++ marksC 64,x.data ++ marks8 0 0 64,x.zero,x.stack,x.labels ++ marksL 64,x.fixes ++ marksF 64,x.targets ++ marksS 64,x.entries ++ marksE 64⟩
def ownO (x:ObjV) (s:ObjS):List Ro:=[⟨66,2,.slice s.c.A x.code.length s.c.c,x.code.length,x.code.flatMap cE⟩,⟨5,1,.slice s.d.A x.data.length s.d.c,x.data.length,u8s x.data⟩,⟨9,1,.slice s.t.A x.targets.length s.t.c,x.targets.length,strV x.targets⟩,⟨78,4,.slice s.l.A x.labels.length s.l.c,x.labels.length,x.labels.flatMap lE⟩,⟨81,4,.slice s.f.A x.fixes.length s.f.c,x.fixes.length,x.fixes.flatMap fE⟩,⟨83,2,.slice s.e.A x.entries.length s.e.c,x.entries.length,x.entries.flatMap eE⟩]
def capsO (x:ObjV) (s:ObjS):Prop:=x.code.length≤s.c.c∧x.data.length≤s.d.c∧x.labels.length≤s.l.c∧x.fixes.length≤s.f.c∧x.targets.length≤s.t.c∧x.entries.length≤s.e.c
theorem marksC_len (n:Nat):(marksC n).length=n:=by simp [marksC]
theorem marksL_len (n:Nat):(marksL n).length=n:=by simp [marksL]
theorem marksF_len (n:Nat):(marksF n).length=n:=by simp [marksF]
theorem marksE_len (n:Nat):(marksE n).length=n:=by simp [marksE]
theorem Reads.of_owns {W:World} {B i:Nat} {rs:List Ro} {e:TypeId} {size n c:Nat} {A:Option Addr} {xs:List Value} (h:Owns W B rs) (hr:rs[i]?=some ⟨e,size,.slice A n c,n,xs⟩):Reads W W.heap.size size A n xs:=Reads.of_own (h.at_ hr)
theorem ownO_R {W:World} {B:Nat} {x:ObjV} {s:ObjS} (h:Owns W B (ownO x s)) (hc:capsO x s):ObjR W W.heap.size x s :=
 ⟨Reads.of_owns (i:=0) h rfl,Reads.of_owns (i:=1) h rfl,Reads.of_owns (i:=3) h rfl,Reads.of_owns (i:=4) h rfl,Reads.of_owns (i:=2) h rfl,Reads.of_owns (i:=5) h rfl,hc⟩
theorem Reads.pre {W:World} {B size n m:Nat} {A:Option Addr} {xs ys:List Value} (h:Reads W B size A (n+m) (xs ++ ys)) (hl:xs.length=n * size):Reads W B size A n xs :=
 ⟨hl,fun hn=>by
   obtain ⟨ad,e,hb,hc⟩:=h.2 (by omega)
   exact ⟨ad,e,hb,fun j u hu=>hc j u (by rw [List.getElem?_append_left (List.getElem?_eq_some_iff.1 hu).1];exact hu)⟩⟩
theorem u8s_append (a b:List Int):u8s (a ++ b)=u8s a ++ u8s b:=by simp [u8s]
theorem strV_append (a b:List ByteArray):strV (a ++ b)=strV a ++ strV b:=by simp [strV]
theorem ObjR.pre {W:World} {B:Nat} {x:ObjV} {s:ObjS} (h:ObjR W B (fullO x) s):ObjR W B x s:=by
 obtain ⟨rc,rd,rl,rf,rt,re,k1,k2,k3,k4,k5,k6⟩:=h
 simp only [fullO,List.length_append,marksC_len,marks8_len,marksS_len,marksL_len,marksF_len,marksE_len] at rc rd rl rf rt re k1 k2 k3 k4 k5 k6
 rw [List.flatMap_append] at rc rl rf re
 rw [u8s_append] at rd
 rw [strV_append] at rt
 exact ⟨rc.pre (enc_len cE_len _),rd.pre (by simp [u8s]),rl.pre (enc_len lE_len _),rf.pre (enc_len fE_len _),rt.pre (by simp [strV]),re.pre (enc_len eE_len _),by omega,by omega,by omega,by omega,by omega,by omega⟩
end Go.Proofs.YtikbegmodacopaaGreatDoor
namespace Go.Proofs.YtikbegmodacopaaGreatDoor
open Go.RowKit Go.PlainAid Go.BigFrame
set_option linter.unusedSimpArgs false
set_option linter.unusedVariables false
set_option maxRecDepth 100000
end Go.Proofs.YtikbegmodacopaaGreatDoor
namespace Go.Proofs.YtikbegmodacopaaGreatDoor
set_option maxRecDepth 100000
open Go.RowKit
section
variable {H:Type} {enc:TypeId × Value→H} {P:Program} {w:World} {held:Bool}
theorem seen_list {α:Type} [Inhabited α] {ec:α→List Value} {K:Nat} (hK:∀ a,(ec a).length=K) (hp:0<K) {t e:TypeId} {ok:α→Prop} {cs:List Value} (ht:P.underlying t=some (.slice e)) (hc:P.cellsOf e=K)
  (hE:∀ vs,Seen enc P w held e vs→∃ a,vs=ec a∧ok a) (h:Seen enc P w held t cs) :
  ∃ (A:Option Addr) (n c:Nat) (xs:List α),cs=[.slice A n c]∧xs.length=n∧n≤c∧c≤maxLen∧c * P.bytesOf e≤reachBytes∧Reads w w.heap.size K A n (xs.flatMap ec)∧∀ x ∈ xs,ok x:=by
 obtain ⟨A,n,c,rfl,h1,h2,h3,h4⟩:=seen_slice ht (by omega) h
 rcases Nat.eq_zero_or_pos n with rfl | hn
 ·exact ⟨A,0,c,[],rfl,rfl,h1,h2,h3,⟨by simp,fun h=>absurd h (by omega)⟩,by simp⟩
 ·obtain ⟨ad,rfl,hb,hi⟩:=h4 hn
  have hv:∀ i,i<n→∃ a:α,(∀ j u,(ec a)[j]?=some u→w.cell? (ad.add (i * K+j))=some u)∧ok a:=by
   intro i hlt
   obtain ⟨vs,hl,hcell,hs⟩:=hi i hlt
   obtain ⟨a,rfl,hw⟩:=hE _ hs
   refine ⟨a,fun j u hu=>?_,hw⟩
   have hj:j<P.cellsOf e:=by rw [← hl];exact (List.getElem?_eq_some_iff.1 hu).1
   have:=hcell j hj
   rw [hc,add_of_add] at this
   exact this.trans hu
  obtain ⟨f,hf⟩:=skolem_lt hv
  refine ⟨some ad,n,c,(List.range n).map f,rfl,by simp,h1,h2,h3,⟨by rw [enc_len hK];simp,fun _=>⟨ad,rfl,hb,fun j u hu=>?_⟩⟩,fun x hx=>?_⟩
  ·have hj:j<n * K:=by
    have:=(List.getElem?_eq_some_iff.1 hu).1
    rw [enc_len hK] at this
    simpa using this
   have hq:j / K<n:=Nat.div_lt_of_lt_mul (by rw [Nat.mul_comm];exact hj)
   have hdm:j / K * K+j % K=j:=by rw [Nat.mul_comm];exact Nat.div_add_mod j K
   have hm:j % K<K:=Nat.mod_lt _ hp
   have hg:((List.range n).map f)[j / K]?=some (f (j / K)):=by simp [hq]
   have hlen:j % K<(ec (f (j / K))).length:=by rw [hK];exact hm
   have h5:=enc_get hK _ _ _ hg (j % K) _ (List.getElem?_eq_getElem hlen)
   rw [hdm,hu] at h5
   have h6:=(hf (j / K) hq).1 (j % K) _ (List.getElem?_eq_getElem hlen)
   rw [hdm] at h6
   rw [h6,h5]
  ·obtain ⟨j,hj,rfl⟩:=List.mem_map.1 hx
   exact (hf j (List.mem_range.1 hj)).2
end
theorem sing {a b:Value} (h:[a]=[b]):a=b:=by injection h
instance:Inhabited LabV:=⟨⟨⟨#[]⟩,0,0,false⟩⟩
instance:Inhabited FixV:=⟨⟨0,0,⟨#[]⟩,0⟩⟩
instance:Inhabited EntV:=⟨⟨⟨#[]⟩,⟨#[]⟩⟩⟩
theorem u8_wf {a:Int} (h:(Lit.int .u8 a).wf=true):0≤a∧a≤255:=by
 have h:=h
 simp [Lit.wf,show IntKind.u8.min=0 from rfl,show IntKind.u8.max=255 from rfl] at h
 omega
theorem u32_wf {a:Int} (h:(Lit.int .u32 a).wf=true):0≤a∧a<4294967296:=by
 have h:=h
 simp [Lit.wf,show IntKind.u32.min=0 from rfl,show IntKind.u32.max=4294967295 from rfl] at h
 omega
section
variable {H:Type} {enc:TypeId × Value→H} {w:World}
theorem seen_instr {vs:List Value} (h:Seen enc Tryz.prog w true 66 vs):∃ a:Int × Int,vs=cE a∧(0≤a.1∧a.1≤255)∧0≤a.2∧a.2<4294967296:=by
 obtain ⟨hl,hf⟩:=seen_struct Tryz.underlying66 h
 match vs,(show vs.length=2 from hl) with
 | [v0,v1],_ =>
  obtain ⟨a,h0,w0⟩:=seen_int Tryz.underlying64 (hf 0 _ rfl)
  obtain ⟨b,h1,w1⟩:=seen_int Tryz.underlying25 (hf 1 _ rfl)
  have e0:[v0]=[Value.int .u8 a]:=h0
  have e1:[v1]=[Value.int .u32 b]:=h1
  injection e0 with e0 _
  injection e1 with e1 _
  subst e0 e1
  exact ⟨(a,b),rfl,u8_wf w0,u32_wf w1⟩
end
end Go.Proofs.YtikbegmodacopaaGreatDoor
