/-
  Joined and packed by program.
-/
import Derived.Test.YtikbegmodacopaaGreatDoorB26
import Derived.Deep.LoopGhost
import Derived.Deep.RegionHeld3
import Derived.Test.YtikbegmodacopaaGreatDoorB25
namespace Go.Proofs.YtikbegmodacopaaGreatDoor
open Go.RowKit Go.PlainAid Go.Shelf Go.BigFrame
set_option linter.unusedSimpArgs false
set_option linter.unusedVariables false
set_option maxRecDepth 100000
attribute [local go_sem] Oper.semAt_some
theorem DwAt.isB {R b:Nat} {T:ByteArray} {w:World} (h:DwAt R b T w):Lib.IsBuilderF 96 5 b b (Lib.byteCells T.data.toList) w:=by
 obtain ⟨hB,p,v,hp,hb,hown⟩:=h
 have hl:(Lib.byteCells T.data.toList).length=T.size:=by rw [Lib.byteCells,List.length_map,Array.length_toList];rfl
 have h2:w.ownsRowF b 5 1 v (Lib.byteCells T.data.toList).length (Lib.byteCells T.data.toList):=by
  rw [hl]
  refine ⟨by rw [hl,Nat.mul_one],?_⟩
  rcases hown.2 with h | ⟨g,cap,cur,fz,hv,hg,rest⟩
  ·exact .inl h
  ·exact .inr ⟨g,cap,cur,fz,hv,by omega,rest⟩
 have h3:=dw_ne hB hown
 rcases hp with rfl | rfl
 ·exact .inl ⟨Nat.le_refl _,v,hb,h2,h3⟩
 ·exact .inr ⟨Nat.le_refl _,v,hb,h2,h3⟩
theorem through_any (A:Option Addr) (n c:Nat) (w:World) :
  Calls Tryz.prog 94 #[.slice A n c,.func (.func 95) #[] #[]] w fun e w'=>e=.returned (.func (.func 127) #[] #[.pointer (some ⟨w.heap.size,0,none⟩),.pointer (some ⟨w.heap.size+1,0,none⟩)]) ∧
   (w.alloc (.cells #[.slice A n c] 24)).alloc (.cells #[.func (.func 95) #[] #[]] 139)=w':=by
 go_enter Tryz.func94,Tryz.ntmps94
 go_wp2
 go_ret
 exact ⟨rfl,rfl⟩
def WalkIs (b:List Int) (w:World) (e:Ending) (w':World):Prop :=
 ∃ bB bE A c,e=.returned (.func (.func 127) #[] #[.pointer (some ⟨bB,0,none⟩),.pointer (some ⟨bE,0,none⟩)])∧ThrAt w.heap.size w'.heap.size bB bE A c b w'∧Below w.heap.size w w'
set_option maxHeartbeats 2000000 in
theorem Walk_any (A:Option Addr) (n c:Nat) (b:List Int) (w:World) (hr:Reads w w.heap.size 1 A n (u8s b)) (hn:n≤65536) :
  Calls Tryz.prog 55 #[.slice A n c] w (WalkIs b w):=by
 obtain ⟨i0,hi,hz0,hz1,hz2⟩:=info_parts bld_u8
 have la:b.length=n:=by simpa using hr.1
 have HR:=hide_ hr
 have HL:=hide_ la
 clear hr la
 have HO0:Owns w w.heap.size [⟨5,1,.slice none 0 0,0,[]⟩]:=one_row (r:=⟨5,1,.slice none 0 0,0,[]⟩) (World.ownsRow_nil _ _ _ _)
 go_enter Tryz.func55,Tryz.ntmps55
 go_wp2_with (at_builtin;refine wpList_append_owns _ rfl (.const (.slice none 0 0)) (.tmp 4) 24 rfl w.heap.size _ 0 5 1 (.slice none 0 0) 0 [] rfl HO0 (Nat.le_refl _) i0 _ 1 Tryz.underlying24 hi hz0 hz1 hz2 rfl (by omega) rfl _ A n c (u8s b) rfl HR.out (by simp [Value.oneCell']) (by simp only [maxLen];omega) (by omega) ?_)
 intro v1 w1 hO1 hb1 hsz1
 have hown:=hO1.at_ (i:=0) rfl
 obtain ⟨A1,c1,hv1,hc1,hc2⟩:=ownsRow_slice hown
 simp only at hv1
 subst hv1
 have HLA:=hide_ (show ∀ ad,A1=some ad→w.heap.size≤ad.block by
  rintro ad rfl
  rcases hown.2 with ⟨h,_⟩ | ⟨g,cap,cur,hv,hg,_⟩
  ·cases h
  ·injection hv with hv
   injection hv with hv
   rw [hv]
   exact hg)
 have HRD:=hide_ (Reads.of_own hown)
 have HB1:=hide_ hb1
 clear hO1 hb1 hsz1 hown HO0 hc1 hc2
 go_wp2_with fail
 refine (through_any A1 n c1 w1).mono ?_
 rintro e w2 ⟨rfl,rfl⟩
 go_wp2
 go_ret
 refine ⟨_,_,A1,c1,rfl,⟨HB1.out.size,by simp;omega,Nat.le_succ_of_le HB1.out.size,by simp,Nat.le_refl _,?_,?_,?_,HLA.out⟩,(HB1.out.alloc HB1.out.size _).alloc (by have:=HB1.out.size;simp;omega) _⟩
 ·rw [((Blk.new w1 24 #[.slice A1 n c1]).alloc _).cell,HL.out]
  rfl
 ·have:=(Blk.new (w1.alloc (.cells #[.slice A1 n c1] 24)) 139 #[.func (.func 95) #[] #[]]).cell 0
  rw [World.size_alloc] at this
  rw [this]
  rfl
 ·rw [HL.out]
  exact ((HRD.out.alloc (Nat.le_refl _) _).alloc (by simp) _).more (by simp;omega)
abbrev StpT (b:List Int):={x:StpV // x ∈ steps b}
theorem thr_stops (n:Nat) (hn:1≤n) (lo hi bB bE c:Nat) (A:Option Addr) (b:List Int) (hb:isBytes b) (hl:b.length≤140737488351232) (w:World) (hT:ThrAt lo hi bB bE A c b w) :
  SeqStopsK Fence.wide n Tryz.prog 127 #[.pointer (some ⟨bB,0,none⟩),.pointer (some ⟨bE,0,none⟩)] (fun (x:StpT b)=>encS x.1) (KpR lo hi) (fun ys=>ys.map (·.1)=steps b) (fun pre=>pre.map (·.1) <+: steps b) (steps b).length w:=fun l J Jx W hW hJ _ hY h0=>by
 refine (thr_in n hn l lo hi bB bE W.heap.size c A b hb hl (fun pre W=>∃ p:List (StpT b),p.map (·.1)=pre∧J p W) (fun pre W=>∃ p:List (StpT b),p.map (·.1)=pre∧Jx p W)
  (fun pre A B row hs hg hr=>by obtain ⟨p,hp,hj⟩:=hs;exact ⟨p,hp,hJ p A B row hj hg hr⟩)
  (fun pre x V hx hj hl=>?_) W (hT.kept (KpR_below hW (Nat.le_refl _))) ⟨[],rfl,h0⟩).mono ?_
 ·obtain ⟨p,rfl,hj⟩:=hj
  refine (hY p ⟨x,hx⟩ V hj (by simpa using hl)).mono ?_
  rintro e V' (⟨he,hj',hk⟩ | ⟨he,hj'⟩)
  ·exact .inl ⟨he,⟨_,by simp,hj'⟩,hk⟩
  ·exact .inr ⟨he,_,by simp,hj'⟩
 ·rintro e V' ⟨he,⟨ys,rfl,p,hp,hj⟩ | ⟨pre,hpre,p,rfl,hj⟩⟩
  ·exact ⟨he,.inl ⟨p,hp,hj⟩⟩
  ·exact ⟨he,.inr ⟨p,hpre,hj⟩⟩
theorem cells_keep {B:Nat} {W W':World} {row:Option Nat} {k:Nat} {cs:Array Value} {t:TypeId} {fz:Nat × Nat} (h:W.heap[k]?=some (.cells cs t fz)) (hg:W.grownBy W' row) (hr:∀ r,row=some r→B≤r∧∃ o:Obj,W.heap[r]?=some o∧o.isCells=false):W'.heap[k]?=some (.cells cs t fz):=by
 refine (hg.block k (Array.getElem?_eq_some_iff.1 h).1 (fun e=>?_)).trans h
 obtain ⟨_,o,ho,hc⟩:=hr k e.symm
 rw [h] at ho
 injection ho with ho
 subst ho
 cases hc
def updS (a:Act) (p q P Q:Nat) (x:StpV) (k:Nat):Act :=
 { tmps:=(((a.tmps.setIfInBounds p (.int .i64 x.at_)).setIfInBounds q (.agg #[.int .u8 x.op,.int .u32 x.arg])).setIfInBounds P (.int .i64 x.at_)).setIfInBounds Q (.pointer (some ⟨k,0,none⟩)),defers:=[] }
theorem foldS (t:Array Value) (p q:Nat) (x:StpV):(#[p,q].zip (encS x)).foldl (fun t (p,v)=>t.setIfInBounds p v) t=(t.setIfInBounds p (.int .i64 x.at_)).setIfInBounds q (.agg #[.int .u8 x.op,.int .u32 x.arg]):=by
 simp [encS]
section
variable {g:Operand} {p q P' Q':Nat} {assign body:Code} {Q:Exit→Act→World→Prop} {a:Act} {w:World} {lo hi bB bE c n:Nat} {A:Option Addr} {b:List Int}
theorem rangeS (hb:isBytes b) (hl:b.length≤140737488351232) (hn:6≤n) (hg:a.eval g=.func (.func 127) #[] #[.pointer (some ⟨bB,0,none⟩),.pointer (some ⟨bE,0,none⟩)]) (hT:ThrAt lo hi bB bE A c b w)
  (I:List StpV→World→Prop) (hI:OwnFrom w.heap.size I) (h0:I [] w)
  (hassign:∀ (l:Nat) (x:StpV) (W:World) (K:Act→World→Prop),K (updS a p q P' Q' x W.heap.size) (W.alloc (.cells #[.int .u8 x.op,.int .u32 x.arg] 66)) →
    assign.wpIn (Fence.wide.inRound l) (n - 1 - 1) Tryz.prog (Exit.then K (fun _ _ _=>False)) { tmps:=(a.tmps.setIfInBounds p (.int .i64 x.at_)).setIfInBounds q (.agg #[.int .u8 x.op,.int .u32 x.arg]),defers:=[] } W)
  (hbody:∀ (l:Nat) (pre:List StpV) (x:StpV) (k:Nat) (W:World),x ∈ steps b→w.heap.size≤l→(∃ r,W.heap[l]?=some (.loop r))→I pre W→w.heap.size≤k→Blk W k 66 #[.int .u8 x.op,.int .u32 x.arg]→w.heap.size≤W.heap.size→pre.length<(steps b).length →
    body.wpIn (Fence.wide.inRound l) (n - 1 - 1) Tryz.prog (ownPostG w.heap.size (KpR lo hi) I (fun _ _ _=>False) (pre ++ [x]) W) (updS a p q P' Q' x k) W)
  (hdone:∀ (D:Nat) (W:World),w.heap.size≤D→I (steps b) W→W.heap[D]?=some (.deferred (some []))→Q .normal { a with defers:={ target:=.collected D,args:=#[] } :: a.defers } W) :
  (Code.rangeFunc g #[p,q] assign body).wpIn Fence.wide n Tryz.prog Q a w :=
 wpIn_rangeFunc_ownH rfl (by omega) hg trivial (enters_of Tryz.func127 (by kernel_rfl) rfl) (thr_stops (n - 1) (by omega) lo hi bB bE c A b hb hl w hT) KpR_t (KpR_b hT.l5) (Below.refl _ _) (fun _=>rfl)
  (fun (pre:List (StpT b)) (W:World)=>I (pre.map (fun (x:StpT b)=>(x.1:StpV))) W∧w.heap.size≤W.heap.size) (fun _ _ _=>False) (fun (pre:List (StpT b)) W W' row h hg hr=>⟨hI (pre.map (fun (x:StpT b)=>(x.1:StpV))) W W' row h.1 hg hr,Nat.le_trans h.2 hg.size⟩) (fun _ _ _ _ _ h _ _=>h) ⟨h0,Nat.le_refl _⟩
  (fun x a' W=>∃ k,w.heap.size≤k∧Blk W k 66 #[.int .u8 x.1.op,.int .u32 x.1.arg]∧a'=updS a p q P' Q' x.1 k)
  (fun x a' _ W W' row h hg hr=>by
    obtain ⟨k,h1,h2,h3⟩:=h
    exact ⟨k,h1,cells_keep h2 hg hr,h3⟩)
  (fun l pre x W K hi hK=>by
    rw [foldS]
    exact hassign l x.1 W K (hK _ _ ((KeepsOthers.alloc _ _).from _) (KpR_below ((Below.refl _ _).alloc (Nat.le_refl _) _) (Nat.le_refl _)) ⟨hI.alloc _ hi.1,by simp;omega⟩ ⟨W.heap.size,hi.2,Blk.new W _ _,rfl⟩))
  (fun l pre x a' W hl hr hi ⟨k,h1,h2,h3⟩ hlen=>by
    subst h3
    have:=hbody l (pre.map (·.1)) x.1 k W x.2 hl hr hi.1 h1 h2 hi.2 (by simpa using hlen)
    rw [show pre.map (·.1) ++ [x.1]=(pre ++ [x]).map (·.1) by simp] at this
    refine Code.wpIn_mono ?_ this
    intro e a'' W'' hp
    cases e with
    | normal=>exact ⟨hp.1,hp.2.1,hp.2.2,Nat.le_trans hi.2 hp.1.size⟩
    | ret=>exact hp
    | exit id=>exact hp
    | goto t=>exact hp
    | panic x=>exact hp
    | outgrown=>exact hp)
  (fun D xs W hD hS hi hk=>by
    have hS':xs.map (·.1)=steps b:=hS
    have h1:=hi.1
    rw [hS'] at h1
    exact hdone D W hD h1 hk)
  (fun D c pre W hD hS hi hk=>hi.elim)
end
def zBld:Array Value:=#[.pointer none,.slice none 0 0]
structure DmpAt (g R:Nat) (A:Option Addr) (n c:Nat) (T:ByteArray) (e:Nat) (w W:World):Prop where
 bld:DwAt R (g+1) T W
 box:W.heap[g]?=some (.cells #[.slice A n c] 24 (0,0))
 end_:W.heap[g+2]?=some (.cells #[.int .i64 e] 3 (0,0))
 bel:Below g w W
theorem DmpAt.grown {g R n c e B:Nat} {A:Option Addr} {T:ByteArray} {w W W':World} {row:Option Nat} (h:DmpAt g R A n c T e w W) (hg:W.grownBy W' row) (hr:∀ r,row=some r→B≤r∧∃ o:Obj,W.heap[r]?=some o∧o.isCells=false) (hB:g≤B):DmpAt g R A n c T e w W':=by
 obtain ⟨⟨h1,p,v,h2,h3,h4⟩,h5,h6,h7⟩:=h
 refine ⟨⟨h1,p,v,h2,cells_keep h3 hg hr,h4.kept hg ?_⟩,cells_keep h5 hg hr,cells_keep h6 hg hr,h7.grown hg (Nat.le_of_lt (Array.getElem?_eq_some_iff.1 h5).1) (fun k hk=>Nat.le_trans hB (hr k hk).1)⟩
 cases hv:v.ownBlock with
 | none=>exact .inl rfl
 | some k =>
  right
  intro e
  obtain ⟨_,o,ho,hc⟩:=hr k e.symm
  obtain ⟨cs,fz,hk⟩:=Lib.ownsRowF_kind h4 k hv
  rw [hk] at ho
  injection ho with ho
  subst ho
  cases hc
theorem DmpAt.below {g R n c e:Nat} {A:Option Addr} {T:ByteArray} {w W W':World} (h:DmpAt g R A n c T e w W) (hb:Below W.heap.size W W'):DmpAt g R A n c T e w W':=by
 have hg:=(Array.getElem?_eq_some_iff.1 h.box).1
 exact ⟨h.bld.below hb,(hb.block g hg).trans h.box,(hb.block (g+2) (Array.getElem?_eq_some_iff.1 h.end_).1).trans h.end_,h.bel.trans (hb.mono (Nat.le_of_lt hg))⟩
theorem reads_sub {w:World} {B n i m:Nat} {ad:Addr} {b:List Int} (h:Reads w B 1 (some ad) n (u8s b)) (hm:i+m≤n):Reads w B 1 (some (ad.add i)) m (u8s (cutB b i m)):=by
 have la:b.length=n:=by simpa using h.1
 refine ⟨by rw [u8s,List.length_map,cutB_len b i m (by omega),Nat.mul_one],fun hp=>?_⟩
 obtain ⟨ad',e,hb,hc⟩:=h.2 (by omega)
 injection e with e
 subst e
 refine ⟨_,rfl,by rw [block_of_add];exact hb,fun j v hj=>?_⟩
 rw [add_of_add]
 refine hc (i+j) v ?_
 have hjm:j<m:=by
  have:=(List.getElem?_eq_some_iff.1 hj).1
  rw [u8s,List.length_map,cutB_len b i m (by omega)] at this
  exact this
 unfold u8s at hj ⊢
 rw [List.getElem?_map] at hj ⊢
 unfold cutB at hj
 rw [List.getElem?_take_of_lt hjm,List.getElem?_drop] at hj
 exact hj
theorem keepsFrom_below {B n:Nat} {A C:World} (h:Below n A C) (hn:A.heap.size≤n):KeepsFrom B A C:=⟨h.size,fun k o _ hk _=>(h.block k (by have:=(Array.getElem?_eq_some_iff.1 hk).1;omega)).trans hk⟩
theorem DmpAt.drew {g R n c e:Nat} {A:Option Addr} {T:ByteArray} {w W:World} (h:DmpAt g R A n c T e w W):DmpAt g R A n c T e w W.drew:=⟨h.bld,h.box,h.end_,h.bel.drew⟩
theorem DmpAt.setEnd {g R n c e:Nat} {A:Option Addr} {T:ByteArray} {w W:World} (h:DmpAt g R A n c T e w W) (hR:g+2<R) (e':Nat):DmpAt g R A n c T e' w (W.setCell ⟨g+2,0,none⟩ (.int .i64 (e':Int))):=by
 obtain ⟨⟨h1,p,v,h2,h3,h4⟩,h5,h6,h7⟩:=h
 refine ⟨⟨h1,p,v,h2,(Below.heap_setCell _ _ _ _ (by show g+1≠g+2;omega)).trans h3,h4.kept (row:=some (g+2)) ⟨rfl,rfl,rfl,by simp [World.setCell],fun k _ hk=>Below.heap_setCell _ _ _ _ (fun e=>hk (by simp [e]))⟩ (.inr (fun e=>by have:=(h4.lt _ e).1;omega))⟩,
  (Below.heap_setCell _ _ _ _ (by show g≠g+2;omega)).trans h5,?_,h7.setCell (p:=⟨g+2,0,none⟩) (by show g≤g+2;omega) _⟩
 have:=(show Blk W (g+2) 3 #[.int .i64 e] from h6).set_ 0 (.int .i64 (e':Int))
 exact this
theorem DmpAt.write {g R n c e:Nat} {A:Option Addr} {T T':ByteArray} {w W W':World} (h:DmpAt g R A n c T e w W) (hR:g+2<R) (hk:DwK R (g+1) W W') (hd:DwAt R (g+1) T' W'):DmpAt g R A n c T' e w W' :=
 ⟨hd,(hk.block g (by omega) (by omega)).trans h.box,(hk.block (g+2) (by omega) (by omega)).trans h.end_,h.bel.trans (hk.below (by omega) (by omega))⟩
theorem kpR_set {lo hi:Nat} (W:World) (p:Addr) (u:Value) (h:p.block<lo):KpR lo hi W (W.setCell p u):=⟨fun k h1 _ _=>Below.heap_setCell _ _ _ _ (by omega),KeepsWalks.setCell _ _ _⟩
theorem kpR_dw {lo hi R b:Nat} {T:ByteArray} {W W':World} (hd:DwAt R b T W) (hk:DwK R b W W') (h1:hi≤R) (h2:b<lo):KpR lo hi W W':=by
 obtain ⟨_,p,v,_,hb,_⟩:=hd
 refine ⟨fun k h3 h4 _=>hk.block k (by omega) (by omega),hk.size,fun k o ho hw=>hk.others k o ho (fun e=>?_) (fun c fz e=>by subst e;cases hw)⟩
 injection e with e
 subst e
 rw [hb] at ho
 injection ho with ho
 subst ho
 cases hw
theorem keepsFrom_dw {B R b:Nat} {W W':World} (hk:DwK R b W W') (h2:b<B):KeepsFrom B W W' :=
 ⟨hk.size,fun k o h3 ho hc=>hk.others k o ho (fun e=>by injection e;omega) (fun c fz e=>by subst e;cases hc)⟩
theorem dumpS_big {b:List Int} (h:65536<b.length):dumpS b=e0C∧dumpE b=122:=⟨by rw [dumpS,if_pos h],by rw [dumpE,if_pos h]⟩
theorem dumpS_small {b:List Int} (h:¬ 65536<b.length):dumpS b=catL (dumpL b)∧dumpE b=0:=⟨by rw [dumpS,if_neg h],by rw [dumpE,if_neg h]⟩
theorem lDump_big (A:Option Addr) (n c:Nat) (w:World) (hn:65536<n) :
  Calls Tryz.prog 28 #[.slice A n c] w fun e w'=>e=.returned (.tuple #[.string ⟨#[]⟩,.int .i64 122])∧Below w.heap.size w w':=by
 have h:decide ((65536:Int)<(n:Int))=true:=decide_eq_true (by omega)
 have h2:decide (65536<n)=true:=decide_eq_true hn
 go_enter Tryz.func28,Tryz.ntmps28
 go_wp2
 go_ret2
 exact ⟨rfl,(Below.refl _ _).alloc (Nat.le_refl _) _⟩
set_option maxHeartbeats 8000000 in
theorem lDump_small (A:Option Addr) (n c:Nat) (b:List Int) (w:World) (hr:Reads w w.heap.size 1 A n (u8s b)) (hcap:n≤c) (hb:isBytes b) (hn:n≤65536) (hT:TabOk w) (hU:BruOk w) :
  Calls Tryz.prog 28 #[.slice A n c] w fun e w'=>e=.returned (.tuple #[.string (catL (dumpL b)),.int .i64 0])∧Below w.heap.size w w':=by
 have la:b.length=n:=by simpa using hr.1
 have h1:decide ((65536:Int)<(n:Int))=false:=decide_eq_false (by omega)
 have h2:decide (65536<n)=false:=decide_eq_false (by omega)
 obtain ⟨W0,hW0⟩:∃ W,W=((w.alloc (.cells #[.slice A n c] 24)).alloc (.cells #[.pointer none,.slice none 0 0] 96)).alloc (.cells #[.int .i64 0] 3):=⟨_,rfl⟩
 have hz0:W0.heap.size=w.heap.size+3:=by rw [hW0];simp
 have HB0:=hide_ (show Below w.heap.size w W0 by rw [hW0];exact (((Below.refl _ _).alloc (Nat.le_refl _) _).alloc (by simp) _).alloc (by simp;omega) _)
 have k0:W0.heap[w.heap.size]?=some (.cells #[.slice A n c] 24 (0,0)):=by rw [hW0];exact ((Blk.new w _ _).alloc _).alloc _
 have k1:W0.heap[w.heap.size+1]?=some (.cells #[.pointer none,.slice none 0 0] 96 (0,0)):=by
  have:=(Blk.new (w.alloc (.cells #[.slice A n c] 24)) 96 #[.pointer none,.slice none 0 0]).alloc (.cells #[.int .i64 0] 3)
  rw [World.size_alloc] at this
  rw [hW0];exact this
 have k2:W0.heap[w.heap.size+2]?=some (.cells #[.int .i64 0] 3 (0,0)):=by
  have:=Blk.new ((w.alloc (.cells #[.slice A n c] 24)).alloc (.cells #[.pointer none,.slice none 0 0] 96)) 3 #[.int .i64 0]
  rw [World.size_alloc,World.size_alloc] at this
  rw [hW0];exact this
 have HWK:=hide_ (Walk_any A n c b W0 ((hr.below HB0.out).more HB0.out.size) hn)
 refine (callsIn_wide (n:=30)).1 ?_
 refine callsIn_of_wp_marks Tryz.func28 rfl trivial ?_ rfl
 simp only [Tryz.ntmps28,List.size_toArray,List.length_cons,List.length_nil,Nat.reduceAdd,Nat.reduceSub,Array.replicate_succ,Array.replicate_zero,List.push_toArray,List.append_toArray,List.nil_append,List.cons_append]
 gi_wp2_with fail
 rw [← hW0]
 refine ⟨trivial,?_⟩
 refine (callsIn_wide.2 HWK.out).mono ?_
 rintro e w2 ⟨bB,bE,A',c',rfl,hthr,hb2⟩
 rw [hz0] at hthr hb2
 have hz2:=hb2.size
 rw [hz0] at hz2
 have HD0:DmpAt w.heap.size w2.heap.size A n c (catL []) 0 w w2:=by
  refine ⟨⟨by omega,.pointer none,.slice none 0 0,.inl rfl,(hb2.block _ (by omega)).trans k1,World.ownsRowF_nil _ _ _ _⟩,(hb2.block _ (by omega)).trans k0,(hb2.block _ (by omega)).trans k2,HB0.out.trans (hb2.mono (by omega))⟩
 clear hW0 k0 k1 k2 HWK
 have HT:=hide_ (fun W (hb:Below w.heap.size w W)=>hT.below hb)
 have HU:=hide_ (fun W (hb:Below w.heap.size w W)=>hU.below hb)
 have HR:=hide_ (fun W (hb:Below w.heap.size w W)=>hr.below hb)
 gi_wp2_with fail
 refine rangeS (P':=6) (Q':=7) hb (by omega) (by omega) rfl hthr (fun pre W=>(∀ s ∈ pre,StpOk b s)∧DmpAt w.heap.size w2.heap.size A n c (catL (pre.map (stepRow b))) (stEnd pre) w W)
  (fun pre W W' row h hg hr=>⟨h.1,h.2.grown hg hr (by omega)⟩) ⟨(fun s hs=>by cases hs),HD0⟩ ?assign1 ?body1 ?done1
 case assign1 =>
  intro l x W K hK
  simp only [updS,List.setIfInBounds_toArray,List.set_cons_succ,List.set_cons_zero] at hK ⊢
  gi_wp2
  exact hK
 case body1 =>
  intro l pre x k W hmem hl hrl hi hk hblk hWs hlen
  simp only [updS,List.setIfInBounds_toArray,List.set_cons_succ,List.set_cons_zero]
  obtain ⟨hok,hD⟩:=hi
  have hx:=stepsF_ok hb _ _ x hmem
  have HX:=hide_ hx
  have HOK:=hide_ hok
  obtain ⟨pl,op,arg⟩:=x
  obtain ⟨q0,q1,a0,a1,hchk,hfit⟩:=hx
  simp only at q0 q1 a0 a1 hchk hfit hblk ⊢
  have hwid:=opR_wid op
  have HLN:=hide_ (Line_any op arg q0 q1 a0 a1 W (HT.out W hD.bel))
  rw [hchk] at HLN
  have HSZ:=hide_ (fun W=>Size_ok op arg hchk W)
  obtain ⟨wd,hwd⟩:∃ wd,wd=(opR op).width:=⟨_,rfl⟩
  rw [← hwd] at HSZ hwid hfit
  have HWD:=hide_ hwd
  obtain ⟨ad,u,rfl,hadb,_,_⟩:=(HR.out W hD.bel).at_ (show pl<n by omega)
  have d0:=hblk.cell 0
  have d1:=hblk.cell 1
  obtain ⟨lt,hlt⟩:∃ l,l=lineS op arg:=⟨_,rfl⟩
  rw [← hlt] at HLN
  have HLT:=hide_ hlt
  have HLS:=hide_ (show lt.size≤30 by rw [hlt];exact lineS_short op a0 a1)
  have hb0:=hide_ hb
  clear hwd hlt hchk q0 q1 a0 a1 hok hmem
  gi_wp2_with fail
  refine ⟨trivial,?_⟩
  refine (CallsIn.inRound l (callsIn_wide.2 HLN.out)).mono ?_
  rintro e w3 ⟨rfl,hb3⟩
  have HB3:=hide_ hb3
  have d0:=(hblk.below hb3 hblk.lt).cell 0
  have d1:=(hblk.below hb3 hblk.lt).cell 1
  clear HLN hb3
  gi_wp2_with fail
  refine ⟨trivial,?_⟩
  refine (CallsIn.inRound l (callsIn_wide.2 (HSZ.out _))).mono ?_
  rintro e w4 ⟨rfl,hb4⟩
  have HB4:=hide_ (HB3.out.trans (hb4.mono HB3.out.size))
  have HD4:=hide_ (hD.below HB4.out)
  obtain ⟨en,hen⟩:∃ en,en=pl+(1+wd):=⟨_,rfl⟩
  have s1:IntKind.i64.wrap ((pl:Int)+(1+(wd:Int)))=(en:Int):=by rw [show (pl:Int)+(1+(wd:Int))=(en:Int) by omega];exact IntWalk.i64_in _ (by omega)
  have f0:=(show Blk w4 (w.heap.size+1+1) 3 #[.int .i64 (stEnd pre)] from HD4.out.end_).cell 0
  have f1:=(show Blk w4 (w.heap.size+1+1) 3 #[.int .i64 (stEnd pre)] from HD4.out.end_).frozen 0
  have f2:=(show Blk (w4.setCell ⟨w.heap.size+1+1,0,none⟩ (.int .i64 (en:Int))) w.heap.size 24 #[.slice (some ad) n c] from (show Blk w4 w.heap.size 24 #[.slice (some ad) n c] from HD4.out.box).far (p:=⟨w.heap.size+1+1,0,none⟩) (by dsimp only;omega) _).cell 0
  have hse:pl≤en:=by omega
  have hec:en≤c:=by omega
  have hpc:¬ c=pl:=by omega
  have hpc2:¬ pl=c:=by omega
  have HEN:=hide_ hen
  clear hb4 HSZ d0 d1 hblk HB3 hen
  obtain ⟨w5,hw5⟩:∃ W,W=w4.setCell ⟨w.heap.size+1+1,0,none⟩ (.int .i64 (en:Int)):=⟨_,rfl⟩
  have hw5':w5=w4.setCell ⟨w.heap.size+2,0,none⟩ (.int .i64 (en:Int)):=hw5
  have HK1:=hide_ (show KeepsFrom w2.heap.size W w5∧KpR (w.heap.size+3) w2.heap.size W w5 by
   rw [hw5']
   exact ⟨(keepsFrom_below HB4.out (Nat.le_refl _)).trans ((KeepsOthers.setCell _ _ _).from _),KpR_t (KpR_below HB4.out (Nat.le_refl _)) (kpR_set _ _ _ (by show w.heap.size+2<_;omega))⟩)
  have HD5:=hide_ (show DmpAt w.heap.size w2.heap.size (some ad) n c (catL (pre.map (stepRow b))) en w w5 by rw [hw5'];exact HD4.out.setEnd (by omega) en)
  have HRW:=hide_ (fun W (hb:Below w.heap.size w W) (hs:w.heap.size≤W.heap.size)=>lrow_any (some (ad.add pl)) (en - pl) (c - pl) pl (cutB b pl (en - pl)) lt W ((reads_sub ((HR.out W hb)) (show pl+(en - pl)≤n by have:=HEN.out;omega)).more hs) (by have:=HEN.out;omega) (by have:=HEN.out;omega) (isBytes_cut hb0.out _ _) (by omega) HLS.out (HU.out W hb))
  have HE2:=hide_ (show stepRow b ⟨pl,op,arg⟩=rowS pl (cutB b pl (en - pl)) lt by
   unfold stepRow stW
   rw [HLT.out]
   dsimp only
   rw [← HWD.out,show en - pl=1+wd by have:=HEN.out;omega])
  obtain ⟨rt,hrt⟩:∃ r,r=rowS pl (cutB b pl (en - pl)) lt:=⟨_,rfl⟩
  rw [← hrt] at HRW HE2
  have HTS:=hide_ (show (catL (pre.map (stepRow b))).size≤1638400∧rt.size≤100 by
   refine ⟨?_,?_⟩
   ·have h1:=catL_len 100 (pre.map (stepRow b)) (fun y hy=>by
     obtain ⟨s,hs,rfl⟩:=List.mem_map.1 hy
     exact stepRow_size hb0.out (by omega) (HOK.out s hs))
    have h2:=stepsF_len b 16384 0
    rw [List.length_map] at h1
    unfold steps at hlen
    omega
   ·rw [← HE2.out]
    exact stepRow_size hb0.out (by omega) HX.out)
  have HEND:=hide_ (show stEnd (pre ++ [(⟨pl,op,arg⟩:StpV)])=en by
   rw [stEnd_snoc,HEN.out]
   unfold stW
   rw [HWD.out])
  have HCAT:=hide_ (show catL ((pre ++ [(⟨pl,op,arg⟩:StpV)]).map (stepRow b))=catL (pre.map (stepRow b)) ++ rt by rw [List.map_append,List.map_cons,List.map_nil,catL_snoc,HE2.out])
  have HALL:=hide_ (show ∀ s ∈ pre ++ [(⟨pl,op,arg⟩:StpV)],StpOk b s from fun s hs=>by
   rcases List.mem_append.1 hs with hs | hs
   ·exact HOK.out s hs
   ·obtain rfl:=List.mem_singleton.1 hs
    exact HX.out)
  obtain ⟨T,hT⟩:∃ T,T=catL (pre.map (stepRow b)):=⟨_,rfl⟩
  rw [← hT] at HCAT HTS HD5
  have HRW5:=hide_ (HRW.out w5 HD5.out.bel HD5.out.bel.size)
  clear hT hrt HE2 HOK HX HWD HLT HEN HD4 HB4 hD hfit hwid HRW hw5'
  gi_wp2_with fail
  rw [← hw5]
  refine ⟨trivial,?_⟩
  refine (CallsIn.inRound l (callsIn_wide.2 HRW5.out)).mono ?_
  rintro e w6 ⟨rfl,hb6⟩
  have HD6:=hide_ (HD5.out.below hb6)
  have HB6:=hide_ hb6
  have HSTR:=hide_ (dw_string w2.heap.size (w.heap.size+1) T rt w6 HD6.out.bld (by have:=HTS.out;omega) (Nat.le_trans hWs (Nat.le_trans HK1.out.1.size hb6.size)))
  clear f0 f1 f2 hb6 HRW5 hw5
  gi_wp2_with fail
  refine ⟨trivial,?_⟩
  refine (CallsIn.inRound l (callsIn_wide.2 HSTR.out)).mono ?_
  rintro e w7 ⟨rfl,hda,hdk⟩
  have HFIN:=hide_ (show KeepsFrom w2.heap.size W w7∧KpR (w.heap.size+3) w2.heap.size W w7∧(∀ s ∈ pre ++ [(⟨pl,op,arg⟩:StpV)],StpOk b s)∧DmpAt w.heap.size w2.heap.size (some ad) n c (catL ((pre ++ [(⟨pl,op,arg⟩:StpV)]).map (stepRow b))) (stEnd (pre ++ [(⟨pl,op,arg⟩:StpV)])) w w7 from by
   rw [HCAT.out,HEND.out]
   exact ⟨(HK1.out.1.trans (keepsFrom_below HB6.out (Nat.le_refl _))).trans (keepsFrom_dw hdk (by omega)),KpR_t (KpR_t HK1.out.2 (KpR_below HB6.out (Nat.le_refl _))) (kpR_dw HD6.out.bld hdk (Nat.le_refl _) (by omega)),HALL.out,HD6.out.write (by omega) hdk hda⟩)
  clear hda hdk HSTR HD6 HB6 HD5 HK1 HCAT HEND HALL
  gi_wp2
  exact HFIN.out
 case done1 =>
  intro D W hD hi hk
  obtain ⟨hok,hD0⟩:=hi
  have HTOT:=hide_ (show (catL (dumpL b)).size≤8192000 by
   have h1:=catL_len 100 (dumpL b) (fun y hy=>by
    rcases List.mem_append.1 hy with hy | hy
    ·obtain ⟨s,hs,rfl⟩:=List.mem_map.1 hy
     exact stepRow_size hb (by omega) (stepsF_ok hb _ _ s hs)
    ·exact tailF_size hb (by omega) _ _ y hy)
   have h2:=stepsF_len b 16384 0
   have h3:=tailF_len b b.length (stEnd (steps b))
   have h4:(dumpL b).length=(stepsF b 16384 0).length+(tailF b b.length (stEnd (steps b))).length:=by rw [dumpL,List.length_append,List.length_map];rfl
   omega)
  have HEND:=hide_ (stEnd_le hb)
  have HT0:=hide_ (show catL ((steps b).map (stepRow b)) ++ catL (tailF b b.length (stEnd (steps b)))=catL (dumpL b) by rw [← catL_app];rfl)
  have HDD:=hide_ hD0
  obtain ⟨e0,he0⟩:∃ e,e=stEnd (steps b):=⟨_,rfl⟩
  obtain ⟨T0,hT0⟩:∃ e,e=catL ((steps b).map (stepRow b)):=⟨_,rfl⟩
  rw [← he0] at HEND HT0 HDD
  rw [← hT0] at HT0 HDD
  have HKD:=hide_ hk
  have HHB:=hide_ hb
  have HLA:=hide_ la
  have HZ:=hide_ (And.intro hz2 hD)
  clear he0 hT0 hD0 hok hk hthr hb2 HD0 HB0 hr hT hU
  gi_wp2
  refine wpIn_wide.2 ?_
  go_loopg [] n (fun kx wr=>∃ (e f:Nat) (T:ByteArray),Hid (T ++ catL (tailF b f e)=catL (dumpL b))∧n - e≤f∧e≤n∧n - e≤kx∧Hid (DmpAt w.heap.size w2.heap.size A n c T e w wr)∧Hid (wr.heap[D]?=some (.deferred (some [])))∧w2.heap.size≤wr.heap.size)
  case atStart=>exact ⟨e0,b.length,T0,HT0,by rw [la];omega,by rw [← la];exact HEND.out,by omega,HDD,HKD,Nat.le_trans hD (Nat.le_of_lt (Array.getElem?_eq_some_iff.1 HKD.out).1)⟩
  case round =>
   obtain ⟨e,f,T,HTT,hef,hen,hkx,HD,HKD,hws⟩:=hrel
   clear HT0 HDD HEND
   have f0:=(show Blk wr (w.heap.size+1+1) 3 #[.int .i64 e] from HD.out.end_).cell 0
   have f1:=(show Blk wr (w.heap.size+1+1) 3 #[.int .i64 e] from HD.out.end_).frozen 0
   have f2:=(show Blk wr w.heap.size 24 #[.slice A n c] from HD.out.box).cell 0
   by_cases hlt:e<n
   ·obtain ⟨f,rfl⟩:∃ g,f=g+1:=⟨f - 1,by omega⟩
    obtain ⟨ad,u,rfl,hadb,_,_⟩:=(HR.out wr HD.out.bel).at_ hlt
    obtain ⟨m,hm⟩:∃ m,m=min 8 (n - e):=⟨_,rfl⟩
    obtain ⟨nx,hnx⟩:∃ m,m=e+min 8 (n - e):=⟨_,rfl⟩
    have hm8:1≤m∧m≤8∧nx=e+m∧nx≤n∧m=nx - e:=by omega
    obtain ⟨hm1,hm8,hnm,hnn,hme⟩:=hm8
    obtain ⟨rt,hrt⟩:∃ r,r=rowS e (cutB b e m) e0C:=⟨_,rfl⟩
    have HT2:=hide_ (show T ++ rt ++ catL (tailF b f nx)=catL (dumpL b) by
     rw [← HTT.out,tailF,if_pos (by rw [HLA.out];exact hlt),catL_cons,HLA.out,← hm,← hrt,hnm,app_assoc])
    have HTS:=hide_ (show T.size≤8192000∧rt.size≤8192000 by
     have h1:=congrArg ByteArray.size HT2.out
     rw [ByteArray.size_append,ByteArray.size_append] at h1
     have:=HTOT.out
     omega)
    have HRW:=hide_ (fun W (hb:Below w.heap.size w W) (hs:w.heap.size≤W.heap.size)=>lrow_any (some (ad.add e)) m (c - e) e (cutB b e m) e0C W ((reads_sub ((HR.out W hb)) (show e+m≤n by omega)).more hs) hm1 hm8 (isBytes_cut HHB.out _ _) (by omega) (by show 0≤30;omega) (HU.out W hb))
    have HRW:=hide_ (HRW.out wr.drew HD.out.drew.bel HD.out.drew.bel.size)
    rw [← hrt,hme] at HRW
    unfold e0C at HRW
    have s1:IntKind.i64.wrap ((e:Int)+8)=(e:Int)+8:=IntWalk.i64_in _ (by omega)
    have s2:min ((e:Int)+8) (n:Int)=(nx:Int):=by omega
    have s3:decide ((e:Int)<(n:Int))=true:=decide_eq_true (by omega)
    have s4:decide (e<n)=true:=decide_eq_true hlt
    have hpc:¬ c=e:=by omega
    have hpc2:¬ e=c:=by omega
    have hse:e≤nx:=by omega
    have hec:nx≤c:=by omega
    have HNX:=hide_ (show nx≤n∧e<nx∧n - e≤f+1 from ⟨hnn,by omega,hef⟩)
    have HST:=hide_ (fun W (h:DwAt w2.heap.size (w.heap.size+1) T W) (hs:w2.heap.size≤W.heap.size)=>dw_string w2.heap.size (w.heap.size+1) T rt W h (by have:=HTS.out;omega) hs)
    have HDR:=hide_ HD.out.drew
    have hDlt:D<wr.drew.heap.size:=(Array.getElem?_eq_some_iff.1 HKD.out).1
    have hws2:w2.heap.size≤wr.drew.heap.size:=hws
    clear hm hnx hm1 hm8 hnm hnn hme hrt HTT HTS hef HD hadb
    go_wp2_with fail
    refine wp_region_noPanic ?_
    go_region_with (first
     | (go_at_call 58;refine HRW.out.mono ?_;rintro e' w6 ⟨rfl,hb6⟩;have HD6:=hide_ (HDR.out.below hb6);have hs6:=Nat.le_trans hws2 hb6.size;have HKD6:=hide_ ((hb6.block D hDlt).trans HKD.out);clear hb6)
     | (go_at_call 57;refine (HST.out w6 HD6.out.bld hs6).mono ?_;rintro e' w7 ⟨rfl,hda,hdk⟩;have HD7:=hide_ (HD6.out.write (by omega) hdk hda);have hs7:=Nat.le_trans hs6 hdk.size;have HKD7:=hide_ (hdk.others D _ HKD6.out (fun e=>by injection e;omega) (fun c fz e=>by cases e));clear hda hdk))
    all_goals refine NoPanic.normal ?_
    all_goals
     have q0:=(show Blk w7 (w.heap.size+1+1) 3 #[.int .i64 e] from HD7.out.end_).cell 0
     have q1:=(show Blk w7 (w.heap.size+1+1) 3 #[.int .i64 e] from HD7.out.end_).frozen 0
     have HREL:=hide_ (show DmpAt w.heap.size w2.heap.size (some ad) n c (T ++ rt) nx w (w7.setCell ⟨w.heap.size+1+1,0,none⟩ (.int .i64 (nx:Int)))∧(w7.setCell ⟨w.heap.size+1+1,0,none⟩ (.int .i64 (nx:Int))).heap[D]?=some (.deferred (some []))∧w2.heap.size≤(w7.setCell ⟨w.heap.size+1+1,0,none⟩ (.int .i64 (nx:Int))).heap.size from
      ⟨HD7.out.setEnd (by omega) nx,(Below.heap_setCell _ _ _ _ (by show D≠w.heap.size+1+1;omega)).trans HKD7.out,by simp [World.setCell];exact hs7⟩)
     clear HD7 HKD7 HD6 HKD6 HDR HRW HST f0 f1 f2
     go_wp2
     go_roundg (n - nx)
     case measure=>have:=HNX.out;omega
     case rel=>exact ⟨nx,f,T ++ rt,HT2,by have:=HNX.out;omega,HNX.out.1,Nat.le_refl _,hide_ HREL.out.1,hide_ HREL.out.2.1,HREL.out.2.2⟩
   ·obtain rfl:e=n:=by omega
    have s3:decide ((e:Int)<(e:Int))=false:=decide_eq_false (by omega)
    have HEQ:=hide_ (show T=catL (dumpL b) by
     have h:=HTT.out
     rw [tailF_ge _ (by omega)] at h
     rw [← h]
     apply ByteArray.ext
     simp [catL])
    have HSTR:=hide_ (Tryz.Builder_String_any_k (w.heap.size+1) (w.heap.size+1) T.data.toList wr HD.out.bld.isB (by omega))
    have HBEL:=hide_ HD.out.bel
    obtain ⟨R,hR⟩:∃ R,R=catL (dumpL b):=⟨_,rfl⟩
    rw [show (⟨T.data.toList.toArray⟩:ByteArray)=T from rfl,HEQ.out,← hR] at HSTR
    have HRR:=hide_ hR
    clear HTT HTOT HD hef hkx hlt hR HEQ
    go_wp2_with fail
    gi_wp2_with fail
    refine ⟨trivial,?_⟩
    refine (callsIn_wide.2 HSTR.out).mono ?_
    rintro e' w8 ⟨rfl,_,hb8,ho8⟩
    have hkA:=ho8 D _ HKD.out (fun e=>by injection e;omega) (fun c fz e=>by cases e)
    have HFB:=hide_ ((HBEL.out.trans (hb8.mono (by omega))).trans (belowK_b (n₀:=w.heap.size) (w:=w) (Nat.le_refl _) _ D _ (.deferred none) (by omega) hkA rfl rfl))
    clear hb8 ho8 HSTR HBEL
    gi_wp2
    refine ⟨by simp,.inl ⟨_,_,rfl,run_takeDeferred hkA,?_⟩⟩
    exact ⟨.tuple #[.string R,.int .i64 0],by simp [results,Tryz.results28,go_sem],by rw [HRR.out],HFB.out⟩
theorem lDump_any (A:Option Addr) (n c:Nat) (b:List Int) (w:World) (hr:Reads w w.heap.size 1 A n (u8s b)) (hcap:n≤c) (hb:isBytes b) (hT:TabOk w) (hU:BruOk w) :
  Calls Tryz.prog 28 #[.slice A n c] w fun e w'=>e=.returned (.tuple #[.string (dumpS b),.int .i64 (dumpE b)])∧Below w.heap.size w w':=by
 have la:b.length=n:=by simpa using hr.1
 by_cases h:65536<n
 ·obtain ⟨h1,h2⟩:=dumpS_big (b:=b) (by omega)
  rw [h1,h2]
  exact lDump_big A n c w h
 ·obtain ⟨h1,h2⟩:=dumpS_small (b:=b) (by omega)
  rw [h1,h2]
  exact lDump_small A n c b w hr hcap hb (by omega) hT hU
end Go.Proofs.YtikbegmodacopaaGreatDoor
namespace Go.Proofs.YtikbegmodacopaaGreatDoor
set_option maxRecDepth 100000
open Go.RowKit Go.PlainAid
set_option linter.unusedSimpArgs false
set_option linter.unusedVariables false
def bl (s:ByteArray):List Nat:=s.data.toList.map (·.toNat)
theorem bl_app (a b:ByteArray):bl (a ++ b)=bl a ++ bl b:=by simp [bl]
theorem bl_len (s:ByteArray):(bl s).length=s.size:=by unfold bl;rw [List.length_map,Array.length_toList];rfl
theorem bl_bn (s:ByteArray) (k:Nat) (h:k<s.size):(bl s)[k]?=some (bn s k):=by
 unfold bl
 rw [List.getElem?_map,Array.getElem?_toList,Array.getElem?_eq_getElem (show k<s.data.size from h)]
 show some _=_
 rw [← bn_eq s k h]
 rfl
def nibV (c:Nat):Nat:=if 48≤c∧c≤57 then c - 48 else if 97≤c∧c≤102 then c - 87 else 16
theorem nib_hx:∀ d,d<16→nibV (hx d)=d:=by
 intro d hd
 have h:∀ d:Fin 16,nibV (hx d.1)=d.1:=by decide
 exact h ⟨d,hd⟩
theorem hx_lt:∀ d,d<16→hx d<256∧hx d≠10:=by
 intro d hd
 unfold hx
 split <;> omega
theorem bl_hxT {d:Nat} (h:d<16):bl (hxT d)=[hx d]:=by
 have:=(hx_lt d h).1
 show [(UInt8.ofNat (hx d)).toNat]=_
 rw [UInt8.toNat_ofNat',Nat.mod_eq_of_lt this]
def prsL:Nat→List Nat→List Int
 | 0,_=>[]
 | f+1,l=>match l with
  | c :: a :: d :: t=>if c=32∧nibV a≤15∧nibV d≤15 then ((16 * nibV a+nibV d:Nat):Int) :: prsL f t else []
  | _=>[]
theorem prsL_cons (f c a d:Nat) (t:List Nat):prsL (f+1) (c :: a :: d :: t)=if c=32∧nibV a≤15∧nibV d≤15 then ((16 * nibV a+nibV d:Nat):Int) :: prsL f t else []:=rfl
theorem xdS_one {n:Nat} (h:n<16):xdS 1 n=hxT n:=by
 unfold xdS
 rw [xdN_small h,hxT_size]
 exact by apply ByteArray.ext;simp [zerT]
theorem xdS_snoc (k n:Nat) (hk:1≤k):xdS (k+1) n=xdS k (n / 16) ++ hxT (n % 16):=by
 unfold xdS
 by_cases h:n<16
 ·rw [xdN_small h,Nat.div_eq_of_lt h,Nat.mod_eq_of_lt h,xd_hxT 0 rfl,hxT_size,zerT_size,zerT_add,show k+1 - 1=k - 1+1 by omega]
 ·rw [xdN_big h,ByteArray.size_append,hxT_size,show k+1 - ((xdN (n / 16)).size+1)=k - (xdN (n / 16)).size by omega,app_assoc]
theorem xdS_two {x:Nat} (h:x<256):bl (xdS 2 x)=[hx (x / 16),hx (x % 16)]:=by
 rw [xdS_snoc 1 x (by omega),xdS_one (by omega),bl_app,bl_hxT (by omega),bl_hxT (by omega)]
 rfl
def plcF (p:Nat):List Nat→Nat
 | []=>p
 | c :: t=>plcF (16 * p+nibV c) t
theorem plcF_app:∀ (a b:List Nat) (p:Nat),plcF p (a ++ b)=plcF (plcF p a) b
 | [],_,_=>rfl
 | c :: a,b,p=>by rw [List.cons_append,plcF,plcF,plcF_app a b]
theorem xdS_plc:∀ (k n:Nat),n<16 ^ (k+1)→plcF 0 (bl (xdS (k+1) n))=n∧(∀ c ∈ bl (xdS (k+1) n),nibV c≤15∧c≠10)
 | 0,n,h=>by
  have h:n<16:=by simpa using h
  rw [xdS_one h,bl_hxT h]
  refine ⟨?_,fun c hc=>?_⟩
  ·show 16 * 0+nibV (hx n)=n
   rw [nib_hx n h];omega
  ·obtain rfl:c=hx n:=by simpa using hc
   rw [nib_hx n h]
   exact ⟨by omega,(hx_lt n h).2⟩
 | k+1,n,h=>by
  obtain ⟨h1,h2⟩:=xdS_plc k (n / 16) (by rw [Nat.pow_succ] at h;omega)
  have h16:n % 16<16:=Nat.mod_lt _ (by omega)
  rw [xdS_snoc (k+1) n (by omega),bl_app,bl_hxT h16,plcF_app,h1]
  refine ⟨?_,fun c hc=>?_⟩
  ·show 16 * (n / 16)+nibV (hx (n % 16))=n
   rw [nib_hx _ h16];omega
  ·rcases List.mem_append.1 hc with hc | hc
   ·exact h2 c hc
   ·obtain rfl:c=hx (n % 16):=by simpa using hc
    rw [nib_hx _ h16]
    exact ⟨by omega,(hx_lt _ h16).2⟩
theorem bl_sp:bl ⟨#[32]⟩=[32]:=rfl
theorem prB_cons (x:Int) (l:List Int):prB (x :: l)=(⟨#[32]⟩ ++ xdS 2 x.toNat) ++ prB l:=by unfold prB;rw [List.map_cons,catL_cons]
theorem prsL_row:∀ (l:List Int) (f:Nat) (t:List Nat),isBytes l→l.length<f→(t=[]∨∃ u,t=32 :: 32 :: u)→prsL f (bl (prB l) ++ t)=l
 | [],f,t,_,hf,ht=>by
  obtain ⟨f,rfl⟩:∃ g,f=g+1:=⟨f - 1,by simp at hf;omega⟩
  rw [show bl (prB [])=[] from rfl,List.nil_append]
  rcases ht with rfl | ⟨u,rfl⟩
  ·rfl
  ·cases u with
   | nil=>rfl
   | cons v u =>
    rw [prsL_cons,if_neg (fun h=>absurd h.2.1 (by decide))]
 | x :: l,f,t,hb,hf,ht=>by
  obtain ⟨f,rfl⟩:∃ g,f=g+1:=⟨f - 1,by simp at hf;omega⟩
  obtain ⟨h0,h1⟩:=hb x (by simp)
  have hx1:x.toNat / 16<16:=by omega
  have hx2:x.toNat % 16<16:=by omega
  rw [prB_cons,bl_app,bl_app,xdS_two (by omega),bl_sp]
  show prsL (f+1) (32 :: hx (x.toNat / 16) :: hx (x.toNat % 16) :: (bl (prB l) ++ t))=_
  rw [prsL_cons,nib_hx _ hx1,nib_hx _ hx2,if_pos ⟨rfl,by omega,by omega⟩,prsL_row l f t (fun y hy=>hb y (by simp [hy])) (by simp at hf;omega) ht]
  congr 1
  omega
structure RowV where
 at_:Nat
 l:List Int
 what:ByteArray
def rowT (r:RowV):ByteArray:=rowS r.at_ r.l r.what
def Parts (b:List Int):Nat→List RowV→Prop
 | n,[]=>n=b.length
 | n,r :: rs=>r.at_=n∧r.l=cutB b n r.l.length∧1≤r.l.length∧r.l.length≤8∧n+r.l.length≤b.length∧(r.what.size=0∨r.l.length≤5)∧r.what.size≤30∧(∀ c ∈ bl r.what,c≠10)∧Parts b (n+r.l.length) rs
def stepV (b:List Int) (s:StpV):RowV:=⟨s.at_,cutB b s.at_ (stW s),lineS s.op s.arg⟩
def tailV (b:List Int):Nat→Nat→List RowV
 | 0,_=>[]
 | f+1,i=>if i<b.length then ⟨i,cutB b i (min 8 (b.length - i)),e0C⟩ :: tailV b f (i+min 8 (b.length - i)) else []
def dumpR (b:List Int):List RowV:=(steps b).map (stepV b) ++ tailV b b.length (stEnd (steps b))
theorem tailV_eq (b:List Int):∀ f i,(tailV b f i).map rowT=tailF b f i
 | 0,_=>rfl
 | f+1,i=>by
  unfold tailV tailF
  split
  ·rw [List.map_cons,tailV_eq b f];rfl
  ·rfl
theorem dumpR_eq (b:List Int):(dumpR b).map rowT=dumpL b:=by
 unfold dumpR dumpL
 rw [List.map_append,List.map_map,tailV_eq]
 rfl
theorem tailV_parts (b:List Int):∀ f i,i≤b.length→b.length - i≤f→Parts b i (tailV b f i)
 | 0,i,h1,h2=>by show i=b.length;omega
 | f+1,i,h1,h2=>by
  unfold tailV
  split
  ·have hl:=cutB_len b i (min 8 (b.length - i)) (by omega)
   refine ⟨rfl,by rw [hl],by rw [hl];omega,by rw [hl];omega,by rw [hl];omega,.inl rfl,by show 0≤30;omega,(fun c hc=>by cases hc),?_⟩
   rw [hl]
   exact tailV_parts b f _ (by omega) (by omega)
  ·show i=b.length
   omega
theorem words_nl:∀ r ∈ opRows,∀ c ∈ r.w,c≠10:=by decide
theorem opR_nl (op:Int):∀ c ∈ (opR op).w,c≠10:=by
 unfold opR
 split
 ·unfold opRow
  rw [List.getD_eq_getElem?_getD]
  cases h:opRows[op.toNat]? with
  | none=>intro c hc;cases hc
  | some r=>exact words_nl r (List.mem_of_getElem? h)
 ·intro c hc;cases hc
theorem dec_nl:∀ (f n:Nat),n<f→∀ c ∈ Lib.decDigits n,c≠10
 | 0,n,h=>absurd h (by omega)
 | f+1,n,h=>by
  by_cases h1:n<10
  ·rw [Lib.decDigits_one h1]
   intro c hc
   obtain rfl:c=UInt8.ofNat (48+n):=by simpa using hc
   intro e
   have:=congrArg UInt8.toNat e
   rw [UInt8.toNat_ofNat',Nat.mod_eq_of_lt (by omega)] at this
   have h2:(10:UInt8).toNat=10:=rfl
   omega
  ·have e:=decT_big h1
   have e2:Lib.decDigits n=Lib.decDigits (n / 10) ++ [UInt8.ofNat (48+n % 10)]:=by
    have:=congrArg (fun x:ByteArray=>x.data.toList) e
    simpa [decT] using this
   rw [e2]
   intro c hc
   rcases List.mem_append.1 hc with hc | hc
   ·exact dec_nl f (n / 10) (by omega) c hc
   ·obtain rfl:c=UInt8.ofNat (48+n % 10):=by simpa using hc
    intro e
    have:=congrArg UInt8.toNat e
    rw [UInt8.toNat_ofNat',Nat.mod_eq_of_lt (by omega)] at this
    have h2:(10:UInt8).toNat=10:=rfl
    omega
theorem bl_nl {l:List UInt8} (h:∀ c ∈ l,c≠10):∀ c ∈ bl ⟨l.toArray⟩,c≠10:=by
 intro c hc
 simp only [bl,List.mem_map] at hc
 obtain ⟨u,hu,rfl⟩:=hc
 intro e
 exact h u (by simpa using hu) (UInt8.toNat_inj.1 (by rw [e];rfl))
theorem lineS_nl (op:Int) {arg:Int} (h0:0≤arg) (h1:arg<4294967296):∀ c ∈ bl (lineS op arg),c≠10:=by
 have hw:=bl_nl (opR_nl op)
 have hs:∀ c ∈ bl (sgnT arg),c≠10:=by
  by_cases h:2147483648≤arg
  ·rw [sgnT_neg h h1,bl_app]
   intro c hc
   rcases List.mem_append.1 hc with hc | hc
   ·obtain rfl:c=45:=by simpa [bl] using hc
    decide
   ·exact bl_nl (dec_nl _ _ (Nat.lt_succ_self _)) c hc
  ·rw [sgnT_pos h0 h]
   exact bl_nl (dec_nl _ _ (Nat.lt_succ_self _))
 unfold lineS
 split
 ·intro c hc;cases hc
 ·split
  ·exact hw
  ·rw [bl_app,bl_app]
   intro c hc
   rcases List.mem_append.1 hc with hc | hc
   ·rcases List.mem_append.1 hc with hc | hc
    ·exact hw c hc
    ·obtain rfl:c=32:=by simpa [bl] using hc
     decide
   ·exact hs c hc
def endFrom (i:Nat) (l:List StpV):Nat:=match l.getLast? with
 | none=>i
 | some s=>s.at_+stW s
theorem stepsF_parts {b:List Int} (hb:isBytes b) (R:List RowV):∀ (f i:Nat),i≤b.length→Parts b (endFrom i (stepsF b f i)) R→Parts b i ((stepsF b f i).map (stepV b) ++ R)
 | 0,i,_,h=>h
 | f+1,i,hi,h=>by
  unfold stepsF at h ⊢
  split
  ·rename_i hc
   rw [if_pos hc] at h
   have hs:StpOk b ⟨i,bA b i,rdA b i⟩:=stepsF_ok hb 1 i _ (by unfold stepsF;rw [if_pos hc];simp)
   obtain ⟨g0,g1,g2,g3,g4,g5⟩:=hs
   have g5:i+(1+rdW b i)≤b.length:=g5
   have hl:(cutB b i (1+rdW b i)).length=1+rdW b i:=cutB_len b i _ g5
   have hw:=rdW_le b i
   rw [List.map_cons,List.cons_append]
   show Parts b i (⟨i,cutB b i (1+rdW b i),lineS (bA b i) (rdA b i)⟩ :: _)
   refine ⟨rfl,by rw [hl],by rw [hl];omega,by rw [hl];omega,by rw [hl];omega,.inr (by rw [hl];omega),lineS_short _ g2 g3,lineS_nl _ g2 g3,?_⟩
   rw [hl]
   refine stepsF_parts hb R f _ g5 ?_
   have e:endFrom i (⟨i,bA b i,rdA b i⟩ :: stepsF b f (i+(1+rdW b i)))=endFrom (i+(1+rdW b i)) (stepsF b f (i+(1+rdW b i))):=by
    unfold endFrom
    rw [List.getLast?_cons]
    cases h2:(stepsF b f (i+(1+rdW b i))).getLast? with
    | none=>rfl
    | some s=>rfl
   rw [e] at h
   exact h
  ·rename_i hc
   rw [if_neg hc] at h
   exact h
theorem dumpR_parts {b:List Int} (hb:isBytes b):Parts b 0 (dumpR b) :=
 stepsF_parts hb _ 16384 0 (Nat.zero_le _) (tailV_parts b _ _ (stEnd_le hb) (by omega))
structure RowRd (b:List Int) (n:Nat) (r:RowV) (s rest:ByteArray):Prop where
 cut:∃ h:ByteArray,s=h ++ (⟨#[10]⟩ ++ rest)∧10≤h.size∧h.size≤100∧(∀ c ∈ bl h,c≠10)∧prsL h.size ((bl h).drop 7)=r.l∧plcF 0 ((bl h).take 6)=n∧(∀ c ∈ (bl h).take 6,nibV c≤15)
theorem row_read {b:List Int} (hb:isBytes b) (hl:b.length≤65536) {n:Nat} {r:RowV} {rs:List RowV} (h:Parts b n (r :: rs)) (rest:ByteArray):RowRd b n r (rowT r ++ rest) rest:=by
 obtain ⟨h1,h2,h3,h4,h5,h6,h7,h8,_⟩:=h
 obtain ⟨a,l,what⟩:=r
 simp only at h1 h2 h3 h4 h5 h6 h7 h8
 subst h1
 have hlb:isBytes l:=by rw [h2];exact isBytes_cut hb _ _
 have hsz:=rowH_size hlb (show a<16777216 by omega)
 have h16:a<16 ^ (5+1):=by omega
 obtain ⟨p1,p2⟩:=xdS_plc 5 a h16
 have hs6:=xdS_size 6 a (by omega) h16
 obtain ⟨T,hT⟩:∃ T,T=(if what.size=0 then e0C else blT (24 - (rowH a l).size) ++ what):=⟨_,rfl⟩
 have hTt:bl T=[]∨∃ u,bl T=32 :: 32 :: u:=by
  rw [hT]
  split
  ·exact .inl rfl
  ·rename_i hw
   right
   have h9:l.length≤5:=by rcases h6 with h | h;exact absurd h hw;exact h
   obtain ⟨k,hk⟩:∃ k,24 - (rowH a l).size=k+2:=⟨24 - (rowH a l).size - 2,by rw [hsz];omega⟩
   rw [hk,bl_app]
   refine ⟨bl (blT k) ++ bl what,?_⟩
   show (Array.replicate (k+2) (32:UInt8)).toList.map _ ++ _=_
   simp [bl,blT,List.replicate_succ]
 have hTn:∀ c ∈ bl T,c≠10:=by
  rw [hT]
  split
  ·intro c hc;cases hc
  ·rw [bl_app]
   intro c hc
   rcases List.mem_append.1 hc with hc | hc
   ·have:c=32:=by
     simp only [bl,blT,List.mem_map] at hc
     obtain ⟨u,hu,rfl⟩:=hc
     have:=List.eq_of_mem_replicate (by simpa using hu:u ∈ List.replicate _ (32:UInt8))
     rw [this];rfl
    subst this
    decide
   ·exact h8 c hc
 have hTs:T.size≤60:=by
  rw [hT]
  split
  ·show 0≤60;omega
  ·rw [ByteArray.size_append,blT_size];omega
 have hpn:∀ (l:List Int),isBytes l→∀ c ∈ bl (prB l),c≠10:=by
  intro l
  induction l with
  | nil=>intro _ c hc;cases hc
  | cons x l ih =>
   intro hb c hc
   obtain ⟨g0,g1⟩:=hb x (by simp)
   rw [prB_cons,bl_app,bl_app,xdS_two (by omega),bl_sp] at hc
   rcases List.mem_append.1 hc with hc | hc
   ·simp only [List.cons_append,List.nil_append,List.mem_cons,List.not_mem_nil,or_false] at hc
    rcases hc with rfl | rfl | rfl
    ·decide
    ·exact (hx_lt _ (by omega)).2
    ·exact (hx_lt _ (by omega)).2
   ·exact ih (fun y hy=>hb y (by simp [hy])) c hc
 refine ⟨rowH a l ++ T,?_,?_,?_,?_,?_,?_,?_⟩
 ·unfold rowT rowS
  dsimp only
  rw [← hT]
  apply ByteArray.ext
  simp
 ·rw [ByteArray.size_append,hsz];omega
 ·rw [ByteArray.size_append,hsz];omega
 ·rw [bl_app]
  unfold rowH
  rw [bl_app,bl_app,bl_sp]
  intro c hc
  rcases List.mem_append.1 hc with hc | hc
  ·rcases List.mem_append.1 hc with hc | hc
   ·rcases List.mem_append.1 hc with hc | hc
    ·exact (p2 c hc).2
    ·obtain rfl:c=32:=by simpa using hc
     decide
   ·exact hpn l hlb c hc
  ·exact hTn c hc
 ·have e:(bl (rowH a l ++ T)).drop 7=bl (prB l) ++ bl T:=by
   unfold rowH
   rw [bl_app,bl_app,List.append_assoc,List.drop_left' (by rw [bl_app,List.length_append,bl_len,bl_len,hs6];rfl)]
  rw [e]
  exact prsL_row l _ _ hlb (by rw [ByteArray.size_append,hsz];omega) hTt
 ·have e:(bl (rowH a l ++ T)).take 6=bl (xdS 6 a):=by
   unfold rowH
   rw [bl_app,bl_app,bl_app,List.append_assoc,List.append_assoc,List.take_left' (by rw [bl_len,hs6])]
  rw [e]
  exact p1
 ·have e:(bl (rowH a l ++ T)).take 6=bl (xdS 6 a):=by
   unfold rowH
   rw [bl_app,bl_app,bl_app,List.append_assoc,List.append_assoc,List.take_left' (by rw [bl_len,hs6])]
  rw [e]
  exact fun c hc=>(p2 c hc).1
end Go.Proofs.YtikbegmodacopaaGreatDoor
