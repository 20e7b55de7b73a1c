/-
  Joined and packed by program.
-/
import Derived.Test.YtikbegmodacopaaGreatDoorC24
import Derived.Test.YtikbegmodacopaaGreatDoorC16
namespace Go.Proofs.YtikbegmodacopaaGreatDoor
open Go.RowKit Go.PlainAid Go.BigFrame
set_option linter.unusedSimpArgs false
set_option linter.unusedVariables false
set_option maxRecDepth 100000
def mkB (n:Nat) (S:List Int):List Bool:=(List.range (n+1)).map fun i=>decide (((i:Nat):Int) ∈ S)
def booV (l:List Bool):List Value:=l.map Value.bool
theorem mkB_len (n:Nat) (S:List Int):(mkB n S).length=n+1:=by simp [mkB]
theorem mkB_nil (n:Nat):mkB n []=List.replicate (n+1) false:=by
 unfold mkB
 apply List.ext_getElem
 ·simp
 ·intro i h1 h2
  simp
theorem mkB_get {n k:Nat} (S:List Int) (hk:k≤n):(mkB n S)[k]?=some (decide ((k:Int) ∈ S)):=by
 unfold mkB
 rw [List.getElem?_map,List.getElem?_range (by omega)]
 rfl
theorem mkB_set {n j:Nat} (S:List Int) (hj:j≤n):(mkB n S).set j true=mkB n (S ++ [(j:Int)]):=by
 apply List.ext_getElem?
 intro i
 by_cases hi:i≤n
 ·rw [mkB_get _ hi,List.getElem?_set]
  by_cases e:j=i
  ·subst e
   rw [if_pos rfl,if_pos (by rw [mkB_len];omega)]
   simp
  ·rw [if_neg e,mkB_get _ hi]
   congr 1
   rw [decide_eq_decide,List.mem_append,List.mem_singleton]
   constructor
   ·exact fun h=>.inl h
   ·rintro (h | h)
    ·exact h
    ·omega
 ·rw [List.getElem?_eq_none (by rw [List.length_set,mkB_len];omega),List.getElem?_eq_none (by rw [mkB_len];omega)]
theorem booV_set (l:List Bool) (j:Nat) (b:Bool):(booV l).set j (.bool b)=booV (l.set j b):=by unfold booV;rw [List.map_set]
theorem boo_info:(Tryz.prog.info? 4).map (fun i=>(i.zero,i.size,i.bytes))=some (some (.bool false),1,1):=by kernel_rfl
def bRow (g c n:Nat) (S:List Int):Ro:=⟨4,1,.slice (some ⟨g,0,none⟩) (n+1) c,n+1,booV (mkB n S)⟩
theorem bR_at {W:World} {B g c n j:Nat} {S:List Int} (h:Owns W B [bRow g c n S]) (hj:j≤n) :
  (∃ b,W.cell? ⟨g,j,none⟩=some (.bool b))∧W.frozen? ⟨g,j,none⟩=false∧(B≤g∧g<W.heap.size)∧Owns (W.setCell ⟨g,j,none⟩ (.bool true)) B [bRow g c n (S ++ [(j:Int)])]:=by
 have hl:j<(booV (mkB n S)).length:=by unfold booV;rw [List.length_map,mkB_len];omega
 refine ⟨⟨_,h.cell (i:=0) (j:=j) rfl (show (booV (mkB n S))[j]?=some (.bool (decide ((j:Int) ∈ S))) by unfold booV;rw [List.getElem?_map,mkB_get _ hj];rfl)⟩,h.frozen (i:=0) (e:=4) (size:=1) rfl j,h.base (i:=0) (e:=4) (size:=1) rfl,?_⟩
 have h1:=h.store (i:=0) (e:=4) (size:=1) rfl hl (.bool true)
 rw [booV_set,mkB_set _ hj] at h1
 exact h1
set_option maxHeartbeats 8000000 in
theorem rplaces_any (x:ImgV) (s:ImgS) (w:World) (hx:ImgOk x) (hr:ImgR w w.heap.size x s) (hbd:x.code.length≤16384∧x.jumps.length≤16384∧x.names.length≤64) (hbg:begB x=true) :
  Calls Tryz.prog 44 #[.agg (imgV x s)] w fun e w'=>∃ g c,e=.returned (.slice (some ⟨g,0,none⟩) (x.code.length+1) c)∧Owns w' w.heap.size [bRow g c x.code.length (allP x)]∧Below w.heap.size w w':=by
 obtain ⟨l1,l2,l4⟩:=hbd
 obtain ⟨i0,hi0,hz0,hz1,hz2⟩:=info_parts boo_info
 have HOK:=hide_ hx
 have HR:=hide_ hr
 have HIN:=hide_ (allP_le hx hbg)
 obtain ⟨W1,hW1⟩:∃ W,W=w.alloc (.cells (imgV x s) 28):=⟨_,rfl⟩
 have HB1:=hide_ (show Below w.heap.size w W1 by rw [hW1];exact (Below.refl _ _).alloc (Nat.le_refl _) _)
 have HK1:=hide_ (show Blk W1 w.heap.size 28 (imgV x s) by rw [hW1];exact Blk.new w _ _)
 have hlt0:w.heap.size<W1.heap.size:=by rw [hW1];simp
 have HAT:=hide_ (fun W (hb:Below W1.heap.size W1 W)=>img_cells (HK1.out.below hb hlt0))
 have FIN:=hide_ (fun W (hb:Below W1.heap.size W1 W)=>show Below w.heap.size w W from HB1.out.trans (hb.mono (by omega)))
 have HRR:=hide_ (fun W (hb:Below W1.heap.size W1 W)=>show ImgR W W.heap.size x s from (HR.out.below (FIN.out W hb)).more (by have:=hb.size;omega))
 have HST:=hide_ (fun W (hb:Below W1.heap.size W1 W) k t ht=>rstatic_any x s k t W HOK.out (HRR.out W hb) ht)
 have LOW:=hide_ (Nat.le_of_lt hlt0)
 clear HR HK1 HB1 hr hx
 unfold imgV at hW1 HST ⊢
 obtain ⟨⟨cA,cc⟩,⟨jA,jc⟩,⟨dA,dc⟩,⟨nA,nc⟩⟩:=s
 dsimp only at hW1 HAT HRR HST ⊢
 obtain ⟨n,hn⟩:∃ n,n=x.code.length:=⟨_,rfl⟩
 rw [← hn] at l1 HAT hW1 HST HIN ⊢
 have HN:=hide_ hn
 clear hn
 go_enter Tryz.func44,Tryz.ntmps44
 go_upto_region 1 with (fail)
 rw [← hW1]
 clear hW1
 have HBW:=hide_ (Below.refl W1.heap.size W1)
 go_wp2_with fail
 go_loopw [3,4] (fun v i wr=>∃ k:Nat,k≤n+1∧i=.int .i64 k∧Hid (Owns wr W1.heap.size [⟨4,1,v,k,booV (List.replicate k false)⟩])∧Hid (Below W1.heap.size W1 wr)) (fun _ i _=>n+1 - (intOf i).toNat)
 case atStart=>exact ⟨0,Nat.zero_le _,rfl,hide_ ⟨fun q hq=>by rw [List.mem_singleton.1 hq];exact World.ownsRow_nil _ _ _ _,List.pairwise_singleton _ _⟩,HBW⟩
 case round =>
  clear HBW
  obtain ⟨k,hk,rfl,HO,HB⟩:=hrel
  obtain ⟨f0,f1,f2,f3,f4,f5⟩:=HAT.out wr HB.out
  obtain ⟨A0,c0,hv,_,_⟩:=ownsRow_slice (HO.out.at_ (i:=0) rfl)
  dsimp only at hv
  subst hv
  by_cases hlt:k≤n
  ·have c1:decide ((k:Int)≤(n:Int))=true:=decide_eq_true (by omega)
   have c2:decide (k≤n)=true:=decide_eq_true hlt
   have NEXT:=hide_ (show booV (List.replicate k false) ++ [.bool false]=booV (List.replicate (k+1) false) by unfold booV;rw [List.replicate_succ'];simp)
   go_wp2_with (at_builtin;refine wpList_append_owns _ rfl (.tmp 17) (.tmp 18) 84 rfl W1.heap.size _ 0 4 1 _ k _ rfl (HO.out.alloc _) (by have:=HB.out.size;simp;omega) i0 _ 1 Tryz.underlying84 hi0 hz0 hz1 hz2 rfl (by omega) rfl _ _ 1 1 [.bool false] rfl (reads_new wr 4 1 1 [.bool false] rfl) (by simp [Value.oneCell']) (by simp only [maxLen];omega) (by omega) ?_)
   intro v1 w1 hO1 hb1 hsz1
   have HO1:=hide_ hO1
   have HB1:=hide_ ((HB.out.alloc HB.out.size _).trans hb1)
   clear hO1 hb1 hsz1 f0 f1 f2 f3 f4 f5
   go_wp2
   go_roundw
   case rel=>exact ⟨k+1,by omega,by go_num,hide_ (by have h9:=HO1.out;rw [NEXT.out] at h9;exact h9),HB1⟩
   case measure=>simp [intOf] <;> omega
  ·obtain rfl:k=n+1:=by omega
   have c1:decide (((n:Int)+1)≤(n:Int))=false:=decide_eq_false (by omega)
   have c2:decide (n+1≤n)=false:=decide_eq_false (by omega)
   obtain ⟨g,c,hgc⟩:=ownsRow_some (HO.out.at_ (i:=0) rfl) (by show 0<n+1;omega)
   dsimp only at hgc
   injection hgc with hgc _ hcc
   subst hgc hcc
   have HO2:=hide_ (show Owns wr W1.heap.size [bRow g c0 n (x.jumps.take 0)] by
    unfold bRow
    rw [List.take_zero,mkB_nil]
    exact HO.out)
   clear HO
   go_wp2_with fail
   obtain ⟨wo,rfl⟩:∃ wo:World,wo=wr:=⟨_,rfl⟩
   go_loopw [5] (fun i wr=>∃ k:Nat,k≤x.jumps.length∧i=.int .i64 k∧Hid (Owns wr W1.heap.size [bRow g c0 n (x.jumps.take k)])∧Hid (Below W1.heap.size W1 wr)) (fun i _=>x.jumps.length - (intOf i).toNat)
   case atStart=>exact ⟨0,Nat.zero_le _,rfl,HO2,HB⟩
   case round =>
    clear HO2 HB f0 f1 f2 f3 f4 f5 c1 c2
    obtain ⟨k,hk,rfl,HO,HB⟩:=hrel
    obtain ⟨f0,f1,f2,f3,f4,f5⟩:=HAT.out wr HB.out
    by_cases hlt:k<x.jumps.length
    ·obtain ⟨p,hp⟩:∃ p,x.jumps[k]?=some p:=⟨_,List.getElem?_eq_getElem hlt⟩
     obtain ⟨p0,p1⟩:=HIN.out p (by unfold allP;exact List.mem_append_left _ (List.mem_append_left _ (List.mem_of_getElem? hp)))
     obtain ⟨j,rfl⟩:∃ j:Nat,p=j:=⟨p.toNat,by omega⟩
     have hjn:j≤n:=by omega
     obtain ⟨ad,rfl,hbk,hcell⟩:=(HRR.out wr HB.out).rj.2 (by omega)
     have q0:=hcell k _ (u32s_get hp)
     obtain ⟨⟨b,s1⟩,s2,⟨s3,s4⟩,s5⟩:=bR_at HO.out hjn
     have NEXT:=hide_ (takeU_at hp)
     have HS5:=hide_ s5
     have HS3:=hide_ s3
     have hj2:j<n+1:=by omega
     clear hcell hp s5 s3 HO p0 p1
     go_wp2
     go_roundw
     case rel=>exact ⟨k+1,by omega,by go_num,hide_ (by rw [NEXT.out];exact HS5.out),hide_ (HB.out.setCell (p:=⟨g,j,none⟩) HS3.out _)⟩
     case measure=>simp [intOf] <;> omega
    ·obtain rfl:k=x.jumps.length:=by omega
     have HO2:=hide_ (show Owns wr W1.heap.size [bRow g c0 n (x.jumps ++ (x.names.take 0).map (·.at_))] by
      have h9:=HO.out
      rw [List.take_length] at h9
      simpa using h9)
     clear HO
     go_wp2_with fail
     obtain ⟨wo2,rfl⟩:∃ wo:World,wo=wr:=⟨_,rfl⟩
     go_loopw [6] (fun i wr=>∃ k:Nat,k≤x.names.length∧i=.int .i64 k∧Hid (Owns wr W1.heap.size [bRow g c0 n (x.jumps ++ (x.names.take k).map (·.at_))])∧Hid (Below W1.heap.size W1 wr)) (fun i _=>x.names.length - (intOf i).toNat)
     case atStart=>exact ⟨0,Nat.zero_le _,rfl,HO2,HB⟩
     case round =>
      clear HO2 HB f0 f1 f2 f3 f4 f5
      obtain ⟨k,hk,rfl,HO,HB⟩:=hrel
      obtain ⟨f0,f1,f2,f3,f4,f5⟩:=HAT.out wr HB.out
      by_cases hlt:k<x.names.length
      ·obtain ⟨t,ht⟩:∃ t,x.names[k]?=some t:=⟨_,List.getElem?_eq_getElem hlt⟩
       obtain ⟨p0,p1⟩:=HIN.out t.at_ (by unfold allP;exact List.mem_append_left _ (List.mem_append_right _ (List.mem_map_of_mem (f:=(·.at_)) (List.mem_of_getElem? ht))))
       obtain ⟨_,ad,rfl,hbk,r0,r1⟩:=el_cells xE_len (HRR.out wr HB.out).rn (by omega) ht
       have q1:=r1 1 _ (by omega) rfl
       have NEXT:=hide_ (show x.jumps ++ (x.names.take (k+1)).map (·.at_)=x.jumps ++ (x.names.take k).map (·.at_) ++ [t.at_] by rw [take_at _ ht,List.append_assoc])
       obtain ⟨nm,at_⟩:=t
       dsimp only at q1 p0 p1 NEXT
       obtain ⟨j,rfl⟩:∃ j:Nat,at_=j:=⟨at_.toNat,by omega⟩
       have hjn:j≤n:=by omega
       obtain ⟨⟨b,s1⟩,s2,⟨s3,s4⟩,s5⟩:=bR_at HO.out hjn
       have HS5:=hide_ s5
       have HS3:=hide_ s3
       have hj2:j<n+1:=by omega
       clear r0 r1 ht s5 s3 HO p0 p1
       go_wp2
       go_roundw
       case rel=>exact ⟨k+1,by omega,by go_num,hide_ (by rw [NEXT.out];exact HS5.out),hide_ (HB.out.setCell (p:=⟨g,j,none⟩) HS3.out _)⟩
       case measure=>simp [intOf] <;> omega
      ·obtain rfl:k=x.names.length:=by omega
       have HO2:=hide_ (show Owns wr W1.heap.size [bRow g c0 n (x.jumps ++ x.names.map (·.at_) ++ ((x.code.take 0).filter (stB n)).map (·.2))] by
        have h9:=HO.out
        rw [List.take_length] at h9
        simpa using h9)
       clear HO
       go_wp2_with fail
       obtain ⟨wo3,rfl⟩:∃ wo:World,wo=wr:=⟨_,rfl⟩
       go_loopw [7] (fun i wr=>∃ k:Nat,k≤n∧i=.int .i64 k∧Hid (Owns wr W1.heap.size [bRow g c0 n (x.jumps ++ x.names.map (·.at_) ++ ((x.code.take k).filter (stB n)).map (·.2))])∧Hid (Below W1.heap.size W1 wr)) (fun i _=>n - (intOf i).toNat)
       case atStart=>exact ⟨0,Nat.zero_le _,rfl,HO2,HB⟩
       case round =>
        clear HO2 HB f0 f1 f2 f3 f4 f5
        obtain ⟨k,hk,rfl,HO,HB⟩:=hrel
        obtain ⟨f0,f1,f2,f3,f4,f5⟩:=HAT.out wr HB.out
        by_cases hlt:k<n
        ·obtain ⟨t,ht⟩:∃ t,x.code[k]?=some t:=⟨_,List.getElem?_eq_getElem (by have:=HN.out;omega)⟩
         have HC:=hide_ (HST.out wr HB.out k t ht)
         have NEXT:=hide_ (congrArg (fun q=>x.jumps ++ x.names.map (·.at_) ++ q) (takeF_at (stB n) (·.2) ht))
         have HLE:=hide_ (fun (h:stB n t=true)=>HIN.out t.2 (by unfold allP;rw [← HN.out];exact List.mem_append_right _ (List.mem_map_of_mem (f:=(·.2)) (List.mem_filter.2 ⟨List.mem_of_getElem? ht,h⟩))))
         obtain ⟨op,arg⟩:=t
         dsimp only at HC NEXT HLE
         obtain ⟨b,hb⟩:∃ b,b=stB n (op,arg):=⟨_,rfl⟩
         rw [← hb] at HC NEXT HLE
         clear hb ht
         go_wp2_with fail
         refine HC.out.mono ?_
         rintro e w3 ⟨rfl,hb3⟩
         have HO3:=hide_ (HO.out.below hb3)
         have HB3:=hide_ (HB.out.trans (hb3.mono HB.out.size))
         clear hb3 f0 f1 f2 f3 f4 f5 HO HB
         cases b with
         | true =>
          obtain ⟨p0,p1⟩:=HLE.out (by simp)
          obtain ⟨j,rfl⟩:∃ j:Nat,arg=j:=⟨arg.toNat,by omega⟩
          have hjn:j≤n:=by omega
          obtain ⟨⟨b,s1⟩,s2,⟨s3,s4⟩,s5⟩:=bR_at HO3.out hjn
          have HS5:=hide_ s5
          have HS3:=hide_ s3
          have hj2:j<n+1:=by omega
          clear s5 s3 HO3 p0 p1
          go_wp2
          go_roundw
          case rel=>exact ⟨k+1,by omega,by go_num,hide_ (by have h8:=NEXT.out;simp only [if_true] at h8;rw [h8];have h9:=HS5.out;simpa using h9),hide_ (HB3.out.setCell (p:=⟨g,j,none⟩) HS3.out _)⟩
          case measure=>simp [intOf] <;> omega
         | false =>
          go_wp2
          go_roundw
          case rel=>exact ⟨k+1,by omega,by go_num,hide_ (by have h9:=HO3.out;have h8:=NEXT.out;simp only [Bool.false_eq_true,if_false,List.append_nil] at h8;rw [h8];exact h9),HB3⟩
          case measure=>simp [intOf] <;> omega
        ·obtain rfl:k=n:=by omega
         have HO2:=hide_ (show Owns wr W1.heap.size [bRow g c0 k (allP x)] by
          have h9:=HO.out
          rw [List.take_of_length_le (by rw [HN.out];exact Nat.le_refl _)] at h9
          unfold allP
          rw [← HN.out]
          exact h9)
         clear HO
         go_wp2
         go_ret
         exact ⟨g,c0,rfl,⟨fun r hr=>own_lo (HO2.out.1 r hr) LOW.out,HO2.out.2⟩,FIN.out _ HB.out⟩
end Go.Proofs.YtikbegmodacopaaGreatDoor
namespace Go.Proofs.YtikbegmodacopaaGreatDoor
open Go.RowKit Go.PlainAid Go.BigFrame
set_option linter.unusedSimpArgs false
set_option linter.unusedVariables false
set_option maxRecDepth 100000
section
variable {W:World} {B g n c:Nat} {y:ObjV} {s:ObjS} {tl:List Ro} {A:Option Addr} {xs:List Value}
theorem oR_cod (h:Owns W B ((oRows g y s tl).set 1 ⟨66,2,.slice A n c,n,xs⟩)) (l:Int × Int) (hn:n=y.code.length+1) (hx:xs=y.code.flatMap cE ++ cE l) :
  Owns (W.setCell ⟨g,0,none⟩ (.slice A n c)) B (oRows g { y with code:=y.code ++ [l] } { s with c:=⟨A,c⟩ } tl):=by
 subst hn hx
 have h1:=h.store (i:=0) (e:=36) (size:=1) (n:=8) (g:=g) (c:=8) (j:=0) rfl (by show 0<8;omega) (.slice A (y.code.length+1) c)
 have e:((oRows g y s tl).set 1 ⟨66,2,.slice A (y.code.length+1) c,y.code.length+1,y.code.flatMap cE ++ cE l⟩).set 0 ⟨36,1,.slice (some ⟨g,0,none⟩) 8 8,8,((objV y s).toList).set 0 (.slice A (y.code.length+1) c)⟩=oRows g { y with code:=y.code ++ [l] } { s with c:=⟨A,c⟩ } tl:=by
  simp [oRows,objV]
 rw [← e]
 exact h1
theorem oR_dat (h:Owns W B ((oRows g y s tl).set 2 ⟨5,1,.slice A n c,n,xs⟩)) (l:Int) (hn:n=y.data.length+1) (hx:xs=u8s y.data ++ [.int .u8 l]) :
  Owns (W.setCell ⟨g,1,none⟩ (.slice A n c)) B (oRows g { y with data:=y.data ++ [l] } { s with d:=⟨A,c⟩ } tl):=by
 subst hn hx
 have h1:=h.store (i:=0) (e:=36) (size:=1) (n:=8) (g:=g) (c:=8) (j:=1) rfl (by show 1<8;omega) (.slice A (y.data.length+1) c)
 have e:((oRows g y s tl).set 2 ⟨5,1,.slice A (y.data.length+1) c,y.data.length+1,u8s y.data ++ [.int .u8 l]⟩).set 0 ⟨36,1,.slice (some ⟨g,0,none⟩) 8 8,8,((objV y s).toList).set 1 (.slice A (y.data.length+1) c)⟩=oRows g { y with data:=y.data ++ [l] } { s with d:=⟨A,c⟩ } tl:=by
  simp [oRows,objV]
 rw [← e]
 exact h1
theorem oR_zero (h:Owns W B (oRows g y s tl)) (z:Int):Owns (W.setCell ⟨g,2,none⟩ (.int .u32 z)) B (oRows g { y with zero:=z } s tl) :=
 h.store (i:=0) (e:=36) (size:=1) (n:=8) (g:=g) (c:=8) (j:=2) rfl (by show 2<8;omega) (.int .u32 z)
theorem oR_stack (h:Owns W B (oRows g y s tl)) (z:Int):Owns (W.setCell ⟨g,3,none⟩ (.int .u32 z)) B (oRows g { y with stack:=z } s tl) :=
 h.store (i:=0) (e:=36) (size:=1) (n:=8) (g:=g) (c:=8) (j:=3) rfl (by show 3<8;omega) (.int .u32 z)
end
section
variable {W:World} {B g:Nat} {y:ObjV} {s:ObjS} {tl:List Ro}
theorem wst_cod {ops:Array Oper} {rest:List Oper} {o:Oper} {a:Act} {Q:Exit→Act→World→Prop} (hgd:o.guard=none) (u v:Operand)
  (ho:o.op=.call { callee:=.builtin .append,args:=#[u,v],argTypes:=#[22,22] }) (hO:Owns W B (oRows g y s tl)) (hB:B≤W.heap.size) (hs:a.eval u=.slice s.c.A y.code.length s.c.c) (l:Int × Int)
  (hx:a.eval v=.slice (some ⟨W.heap.size,0,none⟩) 1 1) (hl:y.code.length≤1048576)
  (h:∀ A c w',Owns (w'.setCell ⟨g,0,none⟩ (.slice A (y.code.length+1) c)) B (oRows g { y with code:=y.code ++ [l] } { s with c:=⟨A,c⟩ } tl)→w'.cell? ⟨g,0,none⟩=some (.slice s.c.A y.code.length s.c.c)→w'.frozen? ⟨g,0,none⟩=false→g<w'.heap.size →
    Below B W (w'.setCell ⟨g,0,none⟩ (.slice A (y.code.length+1) c))→wpList Tryz.prog ops Q rest (a.put o.dst (.slice A (y.code.length+1) c)) w'):wpList Tryz.prog ops Q (o :: rest) a (W.alloc (.cells #[.int .u8 l.1,.int .u32 l.2] 66)):=by
 obtain ⟨i0,hi,hz0,hz1,hz2⟩:=info_parts ci_info
 have hr:(oRows g y s tl)[1]?=some ⟨66,2,.slice s.c.A y.code.length s.c.c,y.code.length,y.code.flatMap cE⟩:=rfl
 have hOA:=hO.alloc (.cells #[.int .u8 l.1,.int .u32 l.2] 66)
 have hBA:B≤(W.alloc (.cells #[.int .u8 l.1,.int .u32 l.2] 66)).heap.size:=by rw [World.size_alloc];omega
 refine wpList_plain hgd fun K hK=>wp_append_any _ u v 22 ho B 66 i0 _ 2 8 Tryz.underlying22 hi hz0 hz1 hz2 rfl (by omega) _ y.code.length _ hs (hOA.at_ hr) _ _ 1 1 (cE l) hx (reads_new W 66 2 1 (cE l) rfl) (by simp [Value.oneCell',cE,lE,fE,eE]) (by simp only [maxLen];omega) (by omega) hBA fun v' w' hown hg hat=>hK _ _ ?_
 obtain ⟨A,c,rfl,_,_⟩:=ownsRow_slice hown
 have hO':=hOA.turn hr hg (r':=⟨66,2,.slice A (y.code.length+1) c,y.code.length+1,y.code.flatMap cE ++ (cE l)⟩) hown (by
  rcases hat with h2 | h2
  ·exact .inl h2
  ·exact .inr (.inr ⟨_,h2,Nat.le_refl _⟩))
 have hb:=(Below.refl B (W.alloc (.cells #[.int .u8 l.1,.int .u32 l.2] 66))).grown hg hBA (fun j hj=>(hOA.lt_ (List.mem_of_getElem? hr) hj).1)
 have hgb:=hO'.base (i:=0) (e:=36) (size:=1) (n:=8) (g:=g) (c:=8) rfl
 exact h A c w' (oR_cod hO' l rfl rfl) (hO'.cell (i:=0) (j:=0) rfl rfl) (hO'.frozen (i:=0) rfl 0) hgb.2 ((((Below.refl B W).alloc hB _).trans hb).setCell (p:=⟨g,0,none⟩) hgb.1 _)
theorem stp_dat {ops:Array Oper} {o:Oper} {a:Act} {K:Act→World→Prop} {Q:Exit→Act→World→Prop} {E:Prop} (hgd:o.guard=none) (u v:Operand)
  (ho:o.op=.call { callee:=.builtin .append,args:=#[u,v],argTypes:=#[24,24] }) (hO:Owns W B (oRows g y s tl)) (hB:B≤W.heap.size) (hs:a.eval u=.slice s.d.A y.data.length s.d.c) (l:Int)
  (hx:a.eval v=.slice (some ⟨W.heap.size,0,none⟩) 1 1) (hl:y.data.length≤1048576)
  (h:∀ A c w',Owns (w'.setCell ⟨g,1,none⟩ (.slice A (y.data.length+1) c)) B (oRows g { y with data:=y.data ++ [l] } { s with d:=⟨A,c⟩ } tl)→w'.cell? ⟨g,1,none⟩=some (.slice s.d.A y.data.length s.d.c)→w'.frozen? ⟨g,1,none⟩=false→g<w'.heap.size →
    Below B W (w'.setCell ⟨g,1,none⟩ (.slice A (y.data.length+1) c))→K (a.put o.dst (.slice A (y.data.length+1) c)) w') :
  if Region.wanted o (yielded ops a.tmps)=true then Oper.wp Tryz.prog o a (W.alloc (.cells #[.int .u8 l] 5)) K Q else E:=by
 have hw:Region.wanted o (yielded ops a.tmps)=true:=by simp [Region.wanted,hgd]
 rw [if_pos hw]
 obtain ⟨i0,hi,hz0,hz1,hz2⟩:=info_parts cb_info
 have hr:(oRows g y s tl)[2]?=some ⟨5,1,.slice s.d.A y.data.length s.d.c,y.data.length,u8s y.data⟩:=rfl
 have hOA:=hO.alloc (.cells #[.int .u8 l] 5)
 have hBA:B≤(W.alloc (.cells #[.int .u8 l] 5)).heap.size:=by rw [World.size_alloc];omega
 refine wp_append_any _ u v 24 ho B 5 i0 _ 1 1 Tryz.underlying24 hi hz0 hz1 hz2 rfl (by omega) _ y.data.length _ hs (hOA.at_ hr) _ _ 1 1 [.int .u8 l] hx (reads_new W 5 1 1 [.int .u8 l] rfl) (by simp [Value.oneCell',cE,lE,fE,eE]) (by simp only [maxLen];omega) (by omega) hBA ?_
 intro v' w' hown hg hat
 obtain ⟨A,c,rfl,_,_⟩:=ownsRow_slice hown
 have hO':=hOA.turn hr hg (r':=⟨5,1,.slice A (y.data.length+1) c,y.data.length+1,u8s y.data ++ [.int .u8 l]⟩) hown (by
  rcases hat with h2 | h2
  ·exact .inl h2
  ·exact .inr (.inr ⟨_,h2,Nat.le_refl _⟩))
 have hb:=(Below.refl B (W.alloc (.cells #[.int .u8 l] 5))).grown hg hBA (fun j hj=>(hOA.lt_ (List.mem_of_getElem? hr) hj).1)
 have hgb:=hO'.base (i:=0) (e:=36) (size:=1) (n:=8) (g:=g) (c:=8) rfl
 exact h A c w' (oR_dat hO' l rfl rfl) (hO'.cell (i:=0) (j:=1) rfl rfl) (hO'.frozen (i:=0) rfl 1) hgb.2 ((((Below.refl B W).alloc hB _).trans hb).setCell (p:=⟨g,1,none⟩) hgb.1 _)
end
def y0O:ObjV:=⟨[],[],0,0,[],[],[],[]⟩
def s0O:ObjS:=⟨⟨none,0⟩,⟨none,0⟩,⟨none,0⟩,⟨none,0⟩,⟨none,0⟩,⟨none,0⟩⟩
theorem start0 {W:World} {B g:Nat} {r:Ro} (h:Owns W B [⟨36,1,.slice (some ⟨g,0,none⟩) 8 8,8,z8.toList⟩,r]) (hB:B≤W.heap.size):Owns W B (oRows g y0O s0O [r]):=by
 have h1:=nil4 ((h.push (Below.refl _ _) (r:=⟨66,2,.slice none 0 0,0,[]⟩) (World.ownsRow_nil _ _ _ _) hB).push (Below.refl _ _) (r:=⟨5,1,.slice none 0 0,0,[]⟩) (World.ownsRow_nil _ _ _ _) hB) hB
 refine Owns.perm h1 fun cnt one k1 k2 k3=>?_
 simp only [oRows,y0O,s0O,objV,z8,k1,k2,k3,List.length_nil,List.flatMap_nil,strV,u8s,List.map_nil]
 omega
def labK (x:ImgV) (k:Nat):List LabV:=((List.range k).filter fun i=>decide (((i:Nat):Int) ∈ allP x)).map fun i=>labP ((i:Nat):Int)
theorem labK_at (x:ImgV) (k:Nat):labK x (k+1)=labK x k ++ (if decide ((k:Int) ∈ allP x)=true then [labP (k:Int)] else []):=by
 unfold labK
 rw [List.range_succ,List.filter_append,List.map_append]
 congr 1
 cases h:decide ((k:Int) ∈ allP x) <;> simp [List.filter_cons,h]
theorem labK_len (x:ImgV) (k:Nat):(labK x k).length≤k:=by
 unfold labK
 rw [List.length_map]
 have:=List.length_filter_le (fun i=>decide (((i:Nat):Int) ∈ allP x)) (List.range k)
 rw [List.length_range] at this
 exact this
theorem labK_all {x:ImgV} (hx:ImgOk x) (hb:begB x=true):labK x (x.code.length+1)=(plc x).map labP:=by
 rw [plc_eq hx hb]
 unfold labK plcR
 rw [List.map_map]
 rfl
end Go.Proofs.YtikbegmodacopaaGreatDoor
