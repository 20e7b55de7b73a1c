/-
  Joined and packed by program.
-/
import Derived.Test.YtikbegmodacopaaGreatDoorB07
import Derived.Test.YtikbegmodacopaaGreatDoorB14
import Derived.Test.YtikbegmodacopaaGreatDoorB03
import Derived.Test.YtikbegmodacopaaGreatDoorB06
import Derived.WalkSpells
import Derived.Test.YtikbegmodacopaaGreatDoorB09
namespace Go.Proofs.YtikbegmodacopaaGreatDoor
open Go.RowKit Go.PlainAid Go.BigFrame
set_option linter.unusedSimpArgs false
set_option linter.unusedVariables false
set_option maxRecDepth 100000
def markB:ByteArray:=⟨#[109,97,114,107]⟩
def mkL (i:Nat):LabV:=⟨markB,0,i,false⟩
def mkF (i:Nat):FixV:=⟨0,i,markB,0⟩
def mkE (i:Nat):EntV:=⟨markB,textOf [i]⟩
def marksL (n:Nat):List LabV:=(List.range n).map mkL
def marksF (n:Nat):List FixV:=(List.range n).map mkF
def marksE (n:Nat):List EntV:=(List.range n).map mkE
theorem lab_info:(Tryz.prog.info? 78).map (fun i=>(i.zero,i.size,i.bytes))=some (some (.agg #[.string ⟨#[]⟩,.int .u8 0,.int .u32 0,.bool false]),4,32):=by kernel_rfl
theorem fix_info:(Tryz.prog.info? 81).map (fun i=>(i.zero,i.size,i.bytes))=some (some (.agg #[.int .u8 0,.int .u32 0,.string ⟨#[]⟩,.int .u32 0]),4,32):=by kernel_rfl
theorem ent_info:(Tryz.prog.info? 83).map (fun i=>(i.zero,i.size,i.bytes))=some (some (.agg #[.string ⟨#[]⟩,.string ⟨#[]⟩]),2,32):=by kernel_rfl
theorem z8_max:(#[.slice none 0 0,.slice none 0 0,.int .u32 0,.int .u32 0,.slice none 0 0,.slice none 0 0,.slice none 0 0,.slice none 0 0]:Array Value).size≤maxLen:=by simp [maxLen]
theorem lent_drew {W:World} {B:Nat} {rs:List Ro} (h:Owns W B rs∧B≤W.heap.size):Owns W.drew B rs∧B≤W.drew.heap.size:=h
theorem lent_push {W W':World} {B n size:Nat} {rs:List Ro} {e:TypeId} {v:Value} {xs:List Value} (h:Owns W B rs∧B≤W.heap.size) (hb:Below W.heap.size W W') (hr:W'.ownsRow W.heap.size e size v n xs):Owns W' B (rs ++ [⟨e,size,v,n,xs⟩])∧B≤W'.heap.size :=
 ⟨h.1.push hb (r:=⟨e,size,v,n,xs⟩) hr h.2,Nat.le_trans h.2 hb.size⟩
theorem lent_box {W:World} {B:Nat} {rs:List Ro} (h:Owns W B rs∧B≤W.heap.size):Owns (W.alloc (.cells #[.slice none 0 0,.slice none 0 0,.int .u32 0,.int .u32 0,.slice none 0 0,.slice none 0 0,.slice none 0 0,.slice none 0 0] 36)) B (rs ++ [⟨36,1,.slice (some ⟨W.heap.size,0,none⟩) 8 8,8,[.slice none 0 0,.slice none 0 0,.int .u32 0,.int .u32 0,.slice none 0 0,.slice none 0 0,.slice none 0 0,.slice none 0 0]⟩])∧B≤(W.alloc (.cells #[.slice none 0 0,.slice none 0 0,.int .u32 0,.int .u32 0,.slice none 0 0,.slice none 0 0,.slice none 0 0,.slice none 0 0] 36)).heap.size :=
 ⟨h.1.box 36 #[.slice none 0 0,.slice none 0 0,.int .u32 0,.int .u32 0,.slice none 0 0,.slice none 0 0,.slice none 0 0,.slice none 0 0] h.2 z8_max,by have:=h.2;simp;omega⟩
theorem box_new {W:World} {B:Nat} {rs:List Ro} (h:Owns W B rs∧B≤W.heap.size):Blk (W.alloc (.cells #[.slice none 0 0,.slice none 0 0,.int .u32 0,.int .u32 0,.slice none 0 0,.slice none 0 0,.slice none 0 0,.slice none 0 0] 36)) W.heap.size 36 #[.slice none 0 0,.slice none 0 0,.int .u32 0,.int .u32 0,.slice none 0 0,.slice none 0 0,.slice none 0 0,.slice none 0 0]∧B≤W.heap.size:=⟨Blk.new _ _ _,h.2⟩
theorem box_drew {W:World} {g B:Nat} {t:TypeId} {cs:Array Value} (h:Blk W g t cs∧B≤g):Blk W.drew g t cs∧B≤g:=h
theorem box_below {W W':World} {g B:Nat} {t:TypeId} {cs:Array Value} (h:Blk W g t cs∧B≤g) (hb:Below W.heap.size W W'):Blk W' g t cs∧B≤g:=⟨h.1.below hb h.1.lt,h.2⟩
theorem box_st {W:World} {g B:Nat} {cs:Array Value} (h:Blk W g 36 #[.slice none 0 0,.slice none 0 0,.int .u32 0,.int .u32 0,.slice none 0 0,.slice none 0 0,.slice none 0 0,.slice none 0 0]∧B≤g) (hs:cs.size=8) (h1:cs.all (·.oneCell')=true):(storeVar 36 ⟨g,0,none⟩ (.agg cs)).run Tryz.prog W=.ok () (W.setRow g cs) :=
 run_storeVar_row (P:=Tryz.prog) W g 36 36 _ cs h.1 (by rw [hs];kernel_rfl) (by rw [hs];rfl) h1
theorem Owns.rerow {W:World} {B i g n:Nat} {rs:List Ro} {e:TypeId} {xs:List Value} (h:Owns W B rs) (hr:rs[i]?=some ⟨e,1,.slice (some ⟨g,0,none⟩) n n,n,xs⟩) (cs:Array Value) (hs:cs.size=n) :
  Owns (W.setRow g cs) B (rs.set i ⟨e,1,.slice (some ⟨g,0,none⟩) n n,n,cs.toList⟩):=by
 have h1:=h.at_ hr
 have hb:=own_blk h1
 have hB:=(h.base hr).1
 have hm:n≤maxLen:=by
  rcases h1.2 with ⟨h2,_⟩ | ⟨g',cap,cur,hv,_,_,hn,hm,_⟩
  ·cases h2
  ·exact Nat.le_trans hn hm
 subst hs
 refine h.turn hr ⟨rfl,rfl,rfl,by simp [World.setRow],fun k _ hk=>setRow_other W g k cs (fun e=>hk (by rw [e];rfl))⟩ (r':=⟨e,1,.slice (some ⟨g,0,none⟩) cs.size cs.size,cs.size,cs.toList⟩) (blk_own (setRow_heap W g _ cs e (0,0) hb) hB hm) (.inl rfl)
theorem Owns.box8 {W:World} {B:Nat} {rs:List Ro} (h:Owns W B rs∧B≤W.heap.size) (v0 v1 v2 v3 v4 v5 v6 v7:Value) :
  Owns (W.alloc (.cells #[v0,v1,v2,v3,v4,v5,v6,v7] 36)) B (rs ++ [⟨36,1,.slice (some ⟨W.heap.size,0,none⟩) 8 8,8,[v0,v1,v2,v3,v4,v5,v6,v7]⟩]) :=
 h.1.box 36 #[v0,v1,v2,v3,v4,v5,v6,v7] h.2 (by simp [maxLen])
theorem Owns.re8 {W:World} {B i g:Nat} {rs:List Ro} {e:TypeId} {xs:List Value} (h:Owns W B rs) (hr:rs[i]?=some ⟨e,1,.slice (some ⟨g,0,none⟩) 8 8,8,xs⟩) (v0 v1 v2 v3 v4 v5 v6 v7:Value) :
  Owns (W.setRow g #[v0,v1,v2,v3,v4,v5,v6,v7]) B (rs.set i ⟨e,1,.slice (some ⟨g,0,none⟩) 8 8,8,[v0,v1,v2,v3,v4,v5,v6,v7]⟩):=h.rerow hr #[v0,v1,v2,v3,v4,v5,v6,v7] rfl
def Box8 (W:World) (g:Nat):Prop:=∃ cs:Array Value,Blk W g 36 cs∧cs.size=8
theorem Box8.drew {W:World} {g:Nat} (h:Box8 W g):Box8 W.drew g:=h
theorem Box8.alloc {W:World} {g:Nat} (h:Box8 W g) (o:Obj):Box8 (W.alloc o) g:=by
 obtain ⟨cs,h1,h2⟩:=h
 exact ⟨cs,h1.alloc o,h2⟩
theorem Box8.below {W W':World} {g B:Nat} (h:Box8 W g) (hb:Below B W W') (hg:g<B):Box8 W' g:=by
 obtain ⟨cs,h1,h2⟩:=h
 exact ⟨cs,h1.below hb hg,h2⟩
theorem Box8.st {W:World} {g:Nat} (h:Box8 W g) {cs:Array Value} (hs:cs.size=8) (h1:cs.all (·.oneCell')=true):(storeVar 36 ⟨g,0,none⟩ (.agg cs)).run Tryz.prog W=.ok () (W.setRow g cs):=by
 obtain ⟨c,h2,h3⟩:=h
 exact run_storeVar_row (P:=Tryz.prog) W g 36 36 _ cs h2 (by rw [hs];kernel_rfl) (by rw [hs,h3]) h1
theorem Box8.far {W:World} {g k:Nat} (h:Box8 W g) (hk:g≠k) (cs:Array Value):Box8 (W.setRow k cs) g:=by
 obtain ⟨c,h2,h3⟩:=h
 exact ⟨c,(setRow_other W k g cs hk).trans h2,h3⟩
theorem Box8.set {W:World} {g:Nat} (h:Box8 W g) {cs:Array Value} (hs:cs.size=8):Box8 (W.setRow g cs) g:=by
 obtain ⟨c,h2,h3⟩:=h
 exact ⟨cs,setRow_heap W g _ cs _ (0,0) h2,hs⟩
theorem below_swap {B:Nat} {W:World} (h:B≤W.heap.size) (o o':Obj):Below B (W.alloc o) (W.alloc o') :=
 ⟨rfl,rfl,rfl,by simp,fun k hk=>by rw [Below.heap_alloc _ _ _ (by omega),Below.heap_alloc _ _ _ (by omega)]⟩
theorem Owns.keepB {w w':World} {B:Nat} {rs:List Ro} (h:Owns w B rs) (hb:∀ k,B≤k→k<w.heap.size→w'.heap[k]?=w.heap[k]?):Owns w' B rs :=
 ⟨fun r hr=>by
   have h1:=h.1 r hr
   refine ⟨h1.1,?_⟩
   rcases h1.2 with h2 | ⟨g,cap,cur,hv,hB,hg,rest⟩
   ·exact .inl h2
   ·exact .inr ⟨g,cap,cur,hv,hB,(hb g hB (Array.getElem?_eq_some_iff.1 hg).1).trans hg,rest⟩,h.2⟩
structure LS (b g m:Nat) (F L:Array Value) (rs:List Ro) (w W:World):Prop where
 bg:Blk W g 36 F
 bm:Blk W m 36 L
 x1:Box8 W (b+1)
 x2:Box8 W (b+2)
 ow:Owns W (b+3) rs
 bl:Below b w W
 ng:b+3≤g
 nm:b+3≤m
section
variable {b g m:Nat} {F L:Array Value} {rs:List Ro} {w W:World}
theorem LS.drew (h:LS b g m F L rs w W):LS b g m F L rs w W.drew:=⟨h.bg,h.bm,h.x1,h.x2,h.ow,h.bl.drew,h.ng,h.nm⟩
end
noncomputable def fullO (x:ObjV):ObjV:=⟨x.code ++ marksC 64,x.data ++ marks8 0 0 64,x.zero,x.stack,x.labels ++ marksL 64,x.fixes ++ marksF 64,x.targets ++ marksS 64,x.entries ++ marksE 64⟩
def ownO (x:ObjV) (s:ObjS):List Ro:=[⟨66,2,.slice s.c.A x.code.length s.c.c,x.code.length,x.code.flatMap cE⟩,⟨5,1,.slice s.d.A x.data.length s.d.c,x.data.length,u8s x.data⟩,⟨9,1,.slice s.t.A x.targets.length s.t.c,x.targets.length,strV x.targets⟩,⟨78,4,.slice s.l.A x.labels.length s.l.c,x.labels.length,x.labels.flatMap lE⟩,⟨81,4,.slice s.f.A x.fixes.length s.f.c,x.fixes.length,x.fixes.flatMap fE⟩,⟨83,2,.slice s.e.A x.entries.length s.e.c,x.entries.length,x.entries.flatMap eE⟩]
def capsO (x:ObjV) (s:ObjS):Prop:=x.code.length≤s.c.c∧x.data.length≤s.d.c∧x.labels.length≤s.l.c∧x.fixes.length≤s.f.c∧x.targets.length≤s.t.c∧x.entries.length≤s.e.c
theorem marksC_len (n:Nat):(marksC n).length=n:=by simp [marksC]
theorem marksL_len (n:Nat):(marksL n).length=n:=by simp [marksL]
theorem marksF_len (n:Nat):(marksF n).length=n:=by simp [marksF]
theorem marksE_len (n:Nat):(marksE n).length=n:=by simp [marksE]
theorem Reads.of_owns {W:World} {B i:Nat} {rs:List Ro} {e:TypeId} {size n c:Nat} {A:Option Addr} {xs:List Value} (h:Owns W B rs) (hr:rs[i]?=some ⟨e,size,.slice A n c,n,xs⟩):Reads W W.heap.size size A n xs:=Reads.of_own (h.at_ hr)
theorem ownO_R {W:World} {B:Nat} {x:ObjV} {s:ObjS} (h:Owns W B (ownO x s)) (hc:capsO x s):ObjR W W.heap.size x s :=
 ⟨Reads.of_owns (i:=0) h rfl,Reads.of_owns (i:=1) h rfl,Reads.of_owns (i:=3) h rfl,Reads.of_owns (i:=4) h rfl,Reads.of_owns (i:=2) h rfl,Reads.of_owns (i:=5) h rfl,hc⟩
theorem Reads.pre {W:World} {B size n m:Nat} {A:Option Addr} {xs ys:List Value} (h:Reads W B size A (n+m) (xs ++ ys)) (hl:xs.length=n * size):Reads W B size A n xs :=
 ⟨hl,fun hn=>by
   obtain ⟨ad,e,hb,hc⟩:=h.2 (by omega)
   exact ⟨ad,e,hb,fun j u hu=>hc j u (by rw [List.getElem?_append_left (List.getElem?_eq_some_iff.1 hu).1];exact hu)⟩⟩
theorem u8s_append (a b:List Int):u8s (a ++ b)=u8s a ++ u8s b:=by simp [u8s]
theorem strV_append (a b:List ByteArray):strV (a ++ b)=strV a ++ strV b:=by simp [strV]
theorem ObjR.pre {W:World} {B:Nat} {x:ObjV} {s:ObjS} (h:ObjR W B (fullO x) s):ObjR W B x s:=by
 obtain ⟨rc,rd,rl,rf,rt,re,k1,k2,k3,k4,k5,k6⟩:=h
 simp only [fullO,List.length_append,marksC_len,marks8_len,marksS_len,marksL_len,marksF_len,marksE_len] at rc rd rl rf rt re k1 k2 k3 k4 k5 k6
 rw [List.flatMap_append] at rc rl rf re
 rw [u8s_append] at rd
 rw [strV_append] at rt
 exact ⟨rc.pre (enc_len cE_len _),rd.pre (by simp [u8s]),rl.pre (enc_len lE_len _),rf.pre (enc_len fE_len _),rt.pre (by simp [strV]),re.pre (enc_len eE_len _),by omega,by omega,by omega,by omega,by omega,by omega⟩
end Go.Proofs.YtikbegmodacopaaGreatDoor
namespace Go.Proofs.YtikbegmodacopaaGreatDoor
open Go.RowKit Go.PlainAid Go.BigFrame
set_option linter.unusedSimpArgs false
set_option linter.unusedVariables false
set_option maxRecDepth 100000
end Go.Proofs.YtikbegmodacopaaGreatDoor
namespace Go.Proofs.YtikbegmodacopaaGreatDoor
set_option maxRecDepth 100000
open Go.RowKit
section
variable {H:Type} {enc:TypeId × Value→H} {P:Program} {w:World} {held:Bool}
theorem seen_list {α:Type} [Inhabited α] {ec:α→List Value} {K:Nat} (hK:∀ a,(ec a).length=K) (hp:0<K) {t e:TypeId} {ok:α→Prop} {cs:List Value} (ht:P.underlying t=some (.slice e)) (hc:P.cellsOf e=K)
  (hE:∀ vs,Seen enc P w held e vs→∃ a,vs=ec a∧ok a) (h:Seen enc P w held t cs) :
  ∃ (A:Option Addr) (n c:Nat) (xs:List α),cs=[.slice A n c]∧xs.length=n∧n≤c∧c≤maxLen∧c * P.bytesOf e≤reachBytes∧Reads w w.heap.size K A n (xs.flatMap ec)∧∀ x ∈ xs,ok x:=by
 obtain ⟨A,n,c,rfl,h1,h2,h3,h4⟩:=seen_slice ht (by omega) h
 rcases Nat.eq_zero_or_pos n with rfl | hn
 ·exact ⟨A,0,c,[],rfl,rfl,h1,h2,h3,⟨by simp,fun h=>absurd h (by omega)⟩,by simp⟩
 ·obtain ⟨ad,rfl,hb,hi⟩:=h4 hn
  have hv:∀ i,i<n→∃ a:α,(∀ j u,(ec a)[j]?=some u→w.cell? (ad.add (i * K+j))=some u)∧ok a:=by
   intro i hlt
   obtain ⟨vs,hl,hcell,hs⟩:=hi i hlt
   obtain ⟨a,rfl,hw⟩:=hE _ hs
   refine ⟨a,fun j u hu=>?_,hw⟩
   have hj:j<P.cellsOf e:=by rw [← hl];exact (List.getElem?_eq_some_iff.1 hu).1
   have:=hcell j hj
   rw [hc,add_of_add] at this
   exact this.trans hu
  obtain ⟨f,hf⟩:=skolem_lt hv
  refine ⟨some ad,n,c,(List.range n).map f,rfl,by simp,h1,h2,h3,⟨by rw [enc_len hK];simp,fun _=>⟨ad,rfl,hb,fun j u hu=>?_⟩⟩,fun x hx=>?_⟩
  ·have hj:j<n * K:=by
    have:=(List.getElem?_eq_some_iff.1 hu).1
    rw [enc_len hK] at this
    simpa using this
   have hq:j / K<n:=Nat.div_lt_of_lt_mul (by rw [Nat.mul_comm];exact hj)
   have hdm:j / K * K+j % K=j:=by rw [Nat.mul_comm];exact Nat.div_add_mod j K
   have hm:j % K<K:=Nat.mod_lt _ hp
   have hg:((List.range n).map f)[j / K]?=some (f (j / K)):=by simp [hq]
   have hlen:j % K<(ec (f (j / K))).length:=by rw [hK];exact hm
   have h5:=enc_get hK _ _ _ hg (j % K) _ (List.getElem?_eq_getElem hlen)
   rw [hdm,hu] at h5
   have h6:=(hf (j / K) hq).1 (j % K) _ (List.getElem?_eq_getElem hlen)
   rw [hdm] at h6
   rw [h6,h5]
  ·obtain ⟨j,hj,rfl⟩:=List.mem_map.1 hx
   exact (hf j (List.mem_range.1 hj)).2
end
theorem sing {a b:Value} (h:[a]=[b]):a=b:=by injection h
instance:Inhabited LabV:=⟨⟨⟨#[]⟩,0,0,false⟩⟩
instance:Inhabited FixV:=⟨⟨0,0,⟨#[]⟩,0⟩⟩
instance:Inhabited EntV:=⟨⟨⟨#[]⟩,⟨#[]⟩⟩⟩
theorem u8_wf {a:Int} (h:(Lit.int .u8 a).wf=true):0≤a∧a≤255:=by
 have h:=h
 simp [Lit.wf,show IntKind.u8.min=0 from rfl,show IntKind.u8.max=255 from rfl] at h
 omega
theorem u32_wf {a:Int} (h:(Lit.int .u32 a).wf=true):0≤a∧a<4294967296:=by
 have h:=h
 simp [Lit.wf,show IntKind.u32.min=0 from rfl,show IntKind.u32.max=4294967295 from rfl] at h
 omega
section
variable {H:Type} {enc:TypeId × Value→H} {w:World}
end
end Go.Proofs.YtikbegmodacopaaGreatDoor
namespace Go.Proofs.YtikbegmodacopaaGreatDoor
open Go.RowKit Go.PlainAid Go.BigFrame
set_option linter.unusedSimpArgs false
set_option linter.unusedVariables false
set_option maxRecDepth 100000
def labP (p:Int):LabV:=⟨natS p,1,p,false⟩
def codP (n:Nat) (t:Int × Int):Int × Int:=if stB n t=true then (t.1,0) else t
def fixF (x:ImgV) (k:Nat):List FixV:=(List.range k).flatMap fun (i:Nat)=>match x.code[i]? with
 | some t=>if stB x.code.length t=true then [⟨1,(i:Int),natS t.2,0⟩] else []
 | none=>[]
def entP (e:ExpV):EntV:=⟨e.name,natS e.at_⟩
def objO (x:ImgV):ObjV:=⟨x.code.map (codP x.code.length),x.data,x.zero,x.stack,(plc x).map labP,fixF x x.code.length,x.jumps.map natS,x.names.map entP⟩
def objE (x:ImgV):Int:=if imgChk x≠0 then imgChk x else if begB x=false then 120 else if 4096<(plc x).length then 121 else 0
theorem fixF_at {x:ImgV} {k:Nat} {t:Int × Int} (h:x.code[k]?=some t):fixF x (k+1)=fixF x k ++ (if stB x.code.length t=true then [⟨1,k,natS t.2,0⟩] else []):=by
 unfold fixF
 rw [List.range_succ,List.flatMap_append]
 simp [h]
theorem fixF_len (x:ImgV):∀ k,(fixF x k).length≤k
 | 0=>Nat.le_refl _
 | k+1=>by
  have h:=fixF_len x k
  have h1:fixF x (k+1)=fixF x k ++ (match x.code[k]? with
   | some t=>if stB x.code.length t=true then [⟨1,(k:Int),natS t.2,0⟩] else []
   | none=>[]):=by unfold fixF;rw [List.range_succ,List.flatMap_append];simp
  rw [h1,List.length_append]
  have h2:(match x.code[k]? with
   | some t=>if stB x.code.length t=true then [(⟨1,(k:Int),natS t.2,0⟩:FixV)] else []
   | none=>[]).length≤1:=by
   split
   ·split <;> simp
   ·simp
  omega
def codK (x:ImgV) (k:Nat):List (Int × Int):=(x.code.take k).map (codP x.code.length) ++ x.code.drop k
theorem codK_0 (x:ImgV):codK x 0=x.code:=by simp [codK]
theorem codK_all (x:ImgV):codK x x.code.length=x.code.map (codP x.code.length):=by simp [codK]
theorem codK_len (x:ImgV) (k:Nat):(codK x k).length=x.code.length:=by
 unfold codK
 rw [List.length_append,List.length_map,List.length_take,List.length_drop]
 omega
theorem codK_get {x:ImgV} {k:Nat} {t:Int × Int} (h:x.code[k]?=some t):(codK x k)[k]?=some t:=by
 have hk:=(List.getElem?_eq_some_iff.1 h).1
 unfold codK
 rw [List.getElem?_append_right (by rw [List.length_map,List.length_take];omega)]
 rw [List.length_map,List.length_take,Nat.min_eq_left (by omega),Nat.sub_self,List.getElem?_drop]
 exact h
theorem codK_no {x:ImgV} {k:Nat} {t:Int × Int} (h:x.code[k]?=some t) (hb:stB x.code.length t=false):codK x (k+1)=codK x k:=by
 obtain ⟨hk,rfl⟩:=List.getElem?_eq_some_iff.1 h
 unfold codK
 rw [take_at _ h,List.drop_eq_getElem_cons hk]
 have:codP x.code.length x.code[k]=x.code[k]:=by unfold codP;rw [hb];rfl
 rw [this,List.append_assoc]
 rfl
theorem codK_yes {x:ImgV} {k:Nat} {t:Int × Int} (h:x.code[k]?=some t) (hb:stB x.code.length t=true):codK x (k+1)=(codK x k).set k (t.1,0):=by
 obtain ⟨hk,rfl⟩:=List.getElem?_eq_some_iff.1 h
 unfold codK
 rw [take_at _ h,List.drop_eq_getElem_cons hk]
 have:codP x.code.length x.code[k]=(x.code[k].1,0):=by unfold codP;rw [hb];rfl
 rw [this,List.append_assoc,List.set_append_right _ _ (by simp;omega)]
 congr 1
 rw [List.length_map,List.length_take,Nat.min_eq_left (by omega),Nat.sub_self]
 rfl
theorem cE_set:∀ (l:List (Int × Int)) (k:Nat) (t:Int × Int),l[k]?=some t→(l.flatMap cE).set (k * 2+1) (.int .u32 0)=(l.set k (t.1,0)).flatMap cE
 | [],_,_,h=>by simp at h
 | a :: l,0,t,h=>by
  have e:a=t:=by simpa using h
  subst e
  rfl
 | a :: l,k+1,t,h=>by
  rw [List.flatMap_cons,List.set_append_right _ _ (by show 2≤_;omega),show (cE a).length=2 from rfl,show (k+1) * 2+1 - 2=k * 2+1 by omega,cE_set l k t (by simpa using h)]
  rfl
def oRows (g:Nat) (y:ObjV) (s:ObjS) (tl:List Ro):List Ro:=⟨36,1,.slice (some ⟨g,0,none⟩) 8 8,8,(objV y s).toList⟩ ::
 ⟨66,2,.slice s.c.A y.code.length s.c.c,y.code.length,y.code.flatMap cE⟩ :: ⟨5,1,.slice s.d.A y.data.length s.d.c,y.data.length,u8s y.data⟩ ::
 ⟨78,4,.slice s.l.A y.labels.length s.l.c,y.labels.length,y.labels.flatMap lE⟩ :: ⟨81,4,.slice s.f.A y.fixes.length s.f.c,y.fixes.length,y.fixes.flatMap fE⟩ ::
 ⟨9,1,.slice s.t.A y.targets.length s.t.c,y.targets.length,strV y.targets⟩ :: ⟨83,2,.slice s.e.A y.entries.length s.e.c,y.entries.length,y.entries.flatMap eE⟩ :: tl
section
variable {W:World} {B g n c:Nat} {y:ObjV} {s:ObjS} {tl:List Ro} {A:Option Addr} {xs:List Value}
theorem oR_lab (h:Owns W B ((oRows g y s tl).set 3 ⟨78,4,.slice A n c,n,xs⟩)) (l:LabV) (hn:n=y.labels.length+1) (hx:xs=y.labels.flatMap lE ++ lE l) :
  Owns (W.setCell ⟨g,4,none⟩ (.slice A n c)) B (oRows g { y with labels:=y.labels ++ [l] } { s with l:=⟨A,c⟩ } tl):=by
 subst hn hx
 have h1:=h.store (i:=0) (e:=36) (size:=1) (n:=8) (g:=g) (c:=8) (j:=4) rfl (by show 4<8;omega) (.slice A (y.labels.length+1) c)
 have e:((oRows g y s tl).set 3 ⟨78,4,.slice A (y.labels.length+1) c,y.labels.length+1,y.labels.flatMap lE ++ lE l⟩).set 0 ⟨36,1,.slice (some ⟨g,0,none⟩) 8 8,8,((objV y s).toList).set 4 (.slice A (y.labels.length+1) c)⟩=oRows g { y with labels:=y.labels ++ [l] } { s with l:=⟨A,c⟩ } tl:=by
  simp [oRows,objV]
 rw [← e]
 exact h1
theorem oR_fix (h:Owns W B ((oRows g y s tl).set 4 ⟨81,4,.slice A n c,n,xs⟩)) (l:FixV) (hn:n=y.fixes.length+1) (hx:xs=y.fixes.flatMap fE ++ fE l) :
  Owns (W.setCell ⟨g,5,none⟩ (.slice A n c)) B (oRows g { y with fixes:=y.fixes ++ [l] } { s with f:=⟨A,c⟩ } tl):=by
 subst hn hx
 have h1:=h.store (i:=0) (e:=36) (size:=1) (n:=8) (g:=g) (c:=8) (j:=5) rfl (by show 5<8;omega) (.slice A (y.fixes.length+1) c)
 have e:((oRows g y s tl).set 4 ⟨81,4,.slice A (y.fixes.length+1) c,y.fixes.length+1,y.fixes.flatMap fE ++ fE l⟩).set 0 ⟨36,1,.slice (some ⟨g,0,none⟩) 8 8,8,((objV y s).toList).set 5 (.slice A (y.fixes.length+1) c)⟩=oRows g { y with fixes:=y.fixes ++ [l] } { s with f:=⟨A,c⟩ } tl:=by
  simp [oRows,objV]
 rw [← e]
 exact h1
theorem oR_tgt (h:Owns W B ((oRows g y s tl).set 5 ⟨9,1,.slice A n c,n,xs⟩)) (l:ByteArray) (hn:n=y.targets.length+1) (hx:xs=strV y.targets ++ [.string l]) :
  Owns (W.setCell ⟨g,6,none⟩ (.slice A n c)) B (oRows g { y with targets:=y.targets ++ [l] } { s with t:=⟨A,c⟩ } tl):=by
 subst hn hx
 have h1:=h.store (i:=0) (e:=36) (size:=1) (n:=8) (g:=g) (c:=8) (j:=6) rfl (by show 6<8;omega) (.slice A (y.targets.length+1) c)
 have e:((oRows g y s tl).set 5 ⟨9,1,.slice A (y.targets.length+1) c,y.targets.length+1,strV y.targets ++ [.string l]⟩).set 0 ⟨36,1,.slice (some ⟨g,0,none⟩) 8 8,8,((objV y s).toList).set 6 (.slice A (y.targets.length+1) c)⟩=oRows g { y with targets:=y.targets ++ [l] } { s with t:=⟨A,c⟩ } tl:=by
  simp [oRows,objV,strV]
 rw [← e]
 exact h1
theorem oR_ent (h:Owns W B ((oRows g y s tl).set 6 ⟨83,2,.slice A n c,n,xs⟩)) (l:EntV) (hn:n=y.entries.length+1) (hx:xs=y.entries.flatMap eE ++ eE l) :
  Owns (W.setCell ⟨g,7,none⟩ (.slice A n c)) B (oRows g { y with entries:=y.entries ++ [l] } { s with e:=⟨A,c⟩ } tl):=by
 subst hn hx
 have h1:=h.store (i:=0) (e:=36) (size:=1) (n:=8) (g:=g) (c:=8) (j:=7) rfl (by show 7<8;omega) (.slice A (y.entries.length+1) c)
 have e:((oRows g y s tl).set 6 ⟨83,2,.slice A (y.entries.length+1) c,y.entries.length+1,y.entries.flatMap eE ++ eE l⟩).set 0 ⟨36,1,.slice (some ⟨g,0,none⟩) 8 8,8,((objV y s).toList).set 7 (.slice A (y.entries.length+1) c)⟩=oRows g { y with entries:=y.entries ++ [l] } { s with e:=⟨A,c⟩ } tl:=by
  simp [oRows,objV]
 rw [← e]
 exact h1
theorem oR_code {gc cc k:Nat} {t:Int × Int} (hs:s.c=⟨some ⟨gc,0,none⟩,cc⟩) (h:Owns W B (oRows g y s tl)) (hk:y.code[k]?=some t) :
  Owns (W.setCell ⟨gc,k * 2+1,none⟩ (.int .u32 0)) B (oRows g { y with code:=y.code.set k (t.1,0) } s tl):=by
 have hr:(oRows g y s tl)[1]?=some ⟨66,2,.slice (some ⟨gc,0,none⟩) y.code.length cc,y.code.length,y.code.flatMap cE⟩:=by
  unfold oRows;rw [hs];rfl
 have hl:k * 2+1<(y.code.flatMap cE).length:=by
  have:=(List.getElem?_eq_some_iff.1 hk).1
  rw [enc_len cE_len];omega
 have h1:=h.store hr (j:=k * 2+1) hl (.int .u32 0)
 rw [cE_set _ _ _ hk] at h1
 have e:(oRows g y s tl).set 1 ⟨66,2,.slice (some ⟨gc,0,none⟩) y.code.length cc,y.code.length,(y.code.set k (t.1,0)).flatMap cE⟩=oRows g { y with code:=y.code.set k (t.1,0) } s tl:=by
  unfold oRows;rw [hs];simp [objV,hs]
 rw [← e]
 exact h1
theorem oR_box (h:Owns W B (oRows g y s tl)):(W.cell? ⟨g,0,none⟩=some (.slice s.c.A y.code.length s.c.c)∧W.cell? ⟨g,1,none⟩=some (.slice s.d.A y.data.length s.d.c)∧W.cell? ⟨g,2,none⟩=some (.int .u32 y.zero)∧W.cell? ⟨g,3,none⟩=some (.int .u32 y.stack) ∧
  W.cell? ⟨g,4,none⟩=some (.slice s.l.A y.labels.length s.l.c)∧W.cell? ⟨g,5,none⟩=some (.slice s.f.A y.fixes.length s.f.c)∧W.cell? ⟨g,6,none⟩=some (.slice s.t.A y.targets.length s.t.c)∧W.cell? ⟨g,7,none⟩=some (.slice s.e.A y.entries.length s.e.c))∧B≤g∧g<W.heap.size :=
 ⟨⟨h.cell (i:=0) (j:=0) rfl rfl,h.cell (i:=0) (j:=1) rfl rfl,h.cell (i:=0) (j:=2) rfl rfl,h.cell (i:=0) (j:=3) rfl rfl,h.cell (i:=0) (j:=4) rfl rfl,h.cell (i:=0) (j:=5) rfl rfl,h.cell (i:=0) (j:=6) rfl rfl,h.cell (i:=0) (j:=7) rfl rfl⟩,h.base (i:=0) rfl⟩
end
section
variable {W:World} {B g n c:Nat} {y:ObjV} {s:ObjS} {tl:List Ro}
theorem stp_lab {ops:Array Oper} {o:Oper} {a:Act} {K:Act→World→Prop} {Q:Exit→Act→World→Prop} {E:Prop} (hgd:o.guard=none) (u v:Operand)
  (ho:o.op=.call { callee:=.builtin .append,args:=#[u,v],argTypes:=#[31,31] }) (hO:Owns W B (oRows g y s tl)) (hB:B≤W.heap.size) (hs:a.eval u=.slice s.l.A y.labels.length s.l.c) (l:LabV)
  (hx:a.eval v=.slice (some ⟨W.heap.size,0,none⟩) 1 1) (hl:y.labels.length≤1048576)
  (h:∀ A c w',Owns (w'.setCell ⟨g,4,none⟩ (.slice A (y.labels.length+1) c)) B (oRows g { y with labels:=y.labels ++ [l] } { s with l:=⟨A,c⟩ } tl)→w'.cell? ⟨g,4,none⟩=some (.slice s.l.A y.labels.length s.l.c)→w'.frozen? ⟨g,4,none⟩=false→g<w'.heap.size →
    Below B W (w'.setCell ⟨g,4,none⟩ (.slice A (y.labels.length+1) c))→K (a.put o.dst (.slice A (y.labels.length+1) c)) w') :
  if Region.wanted o (yielded ops a.tmps)=true then Oper.wp Tryz.prog o a (W.alloc (.cells #[.string l.name,.int .u8 l.sec,.int .u32 l.at_,.bool l.opn] 78)) K Q else E:=by
 obtain ⟨i0,hi,hz0,hz1,hz2⟩:=info_parts lab_info
 have hw:Region.wanted o (yielded ops a.tmps)=true:=by simp [Region.wanted,hgd]
 rw [if_pos hw]
 have hr:(oRows g y s tl)[3]?=some ⟨78,4,.slice s.l.A y.labels.length s.l.c,y.labels.length,y.labels.flatMap lE⟩:=rfl
 have hOA:=hO.alloc (.cells #[.string l.name,.int .u8 l.sec,.int .u32 l.at_,.bool l.opn] 78)
 have hBA:B≤(W.alloc (.cells #[.string l.name,.int .u8 l.sec,.int .u32 l.at_,.bool l.opn] 78)).heap.size:=by rw [World.size_alloc];omega
 refine wp_append_any _ u v 31 ho B 78 i0 _ 4 32 Tryz.underlying31 hi hz0 hz1 hz2 rfl (by omega) _ y.labels.length _ hs (hOA.at_ hr) _ _ 1 1 (lE l) hx (reads_new W 78 4 1 (lE l) rfl) (by simp [Value.oneCell',lE,fE,eE]) (by simp only [maxLen];omega) (by omega) hBA ?_
 intro v' w' hown hg hat
 obtain ⟨A,c,rfl,_,_⟩:=ownsRow_slice hown
 have hO':=hOA.turn hr hg (r':=⟨78,4,.slice A (y.labels.length+1) c,y.labels.length+1,y.labels.flatMap lE ++ (lE l)⟩) hown (by
  rcases hat with h2 | h2
  ·exact .inl h2
  ·exact .inr (.inr ⟨_,h2,Nat.le_refl _⟩))
 have hb:=(Below.refl B (W.alloc (.cells #[.string l.name,.int .u8 l.sec,.int .u32 l.at_,.bool l.opn] 78))).grown hg hBA (fun j hj=>(hOA.lt_ (List.mem_of_getElem? hr) hj).1)
 have hgb:=hO'.base (i:=0) (e:=36) (size:=1) (n:=8) (g:=g) (c:=8) rfl
 exact h A c w' (oR_lab hO' l rfl rfl) (hO'.cell (i:=0) (j:=4) rfl rfl) (hO'.frozen (i:=0) rfl 4) hgb.2 ((((Below.refl B W).alloc hB _).trans hb).setCell (p:=⟨g,4,none⟩) hgb.1 _)
theorem stp_fix {ops:Array Oper} {o:Oper} {a:Act} {K:Act→World→Prop} {Q:Exit→Act→World→Prop} {E:Prop} (hgd:o.guard=none) (u v:Operand)
  (ho:o.op=.call { callee:=.builtin .append,args:=#[u,v],argTypes:=#[32,32] }) (hO:Owns W B (oRows g y s tl)) (hB:B≤W.heap.size) (hs:a.eval u=.slice s.f.A y.fixes.length s.f.c) (l:FixV)
  (hx:a.eval v=.slice (some ⟨W.heap.size,0,none⟩) 1 1) (hl:y.fixes.length≤1048576)
  (h:∀ A c w',Owns (w'.setCell ⟨g,5,none⟩ (.slice A (y.fixes.length+1) c)) B (oRows g { y with fixes:=y.fixes ++ [l] } { s with f:=⟨A,c⟩ } tl)→w'.cell? ⟨g,5,none⟩=some (.slice s.f.A y.fixes.length s.f.c)→w'.frozen? ⟨g,5,none⟩=false→g<w'.heap.size →
    Below B W (w'.setCell ⟨g,5,none⟩ (.slice A (y.fixes.length+1) c))→K (a.put o.dst (.slice A (y.fixes.length+1) c)) w') :
  if Region.wanted o (yielded ops a.tmps)=true then Oper.wp Tryz.prog o a (W.alloc (.cells #[.int .u8 l.sec,.int .u32 l.at_,.string l.name,.int .u32 l.add] 81)) K Q else E:=by
 obtain ⟨i0,hi,hz0,hz1,hz2⟩:=info_parts fix_info
 have hw:Region.wanted o (yielded ops a.tmps)=true:=by simp [Region.wanted,hgd]
 rw [if_pos hw]
 have hr:(oRows g y s tl)[4]?=some ⟨81,4,.slice s.f.A y.fixes.length s.f.c,y.fixes.length,y.fixes.flatMap fE⟩:=rfl
 have hOA:=hO.alloc (.cells #[.int .u8 l.sec,.int .u32 l.at_,.string l.name,.int .u32 l.add] 81)
 have hBA:B≤(W.alloc (.cells #[.int .u8 l.sec,.int .u32 l.at_,.string l.name,.int .u32 l.add] 81)).heap.size:=by rw [World.size_alloc];omega
 refine wp_append_any _ u v 32 ho B 81 i0 _ 4 32 Tryz.underlying32 hi hz0 hz1 hz2 rfl (by omega) _ y.fixes.length _ hs (hOA.at_ hr) _ _ 1 1 (fE l) hx (reads_new W 81 4 1 (fE l) rfl) (by simp [Value.oneCell',lE,fE,eE]) (by simp only [maxLen];omega) (by omega) hBA ?_
 intro v' w' hown hg hat
 obtain ⟨A,c,rfl,_,_⟩:=ownsRow_slice hown
 have hO':=hOA.turn hr hg (r':=⟨81,4,.slice A (y.fixes.length+1) c,y.fixes.length+1,y.fixes.flatMap fE ++ (fE l)⟩) hown (by
  rcases hat with h2 | h2
  ·exact .inl h2
  ·exact .inr (.inr ⟨_,h2,Nat.le_refl _⟩))
 have hb:=(Below.refl B (W.alloc (.cells #[.int .u8 l.sec,.int .u32 l.at_,.string l.name,.int .u32 l.add] 81))).grown hg hBA (fun j hj=>(hOA.lt_ (List.mem_of_getElem? hr) hj).1)
 have hgb:=hO'.base (i:=0) (e:=36) (size:=1) (n:=8) (g:=g) (c:=8) rfl
 exact h A c w' (oR_fix hO' l rfl rfl) (hO'.cell (i:=0) (j:=5) rfl rfl) (hO'.frozen (i:=0) rfl 5) hgb.2 ((((Below.refl B W).alloc hB _).trans hb).setCell (p:=⟨g,5,none⟩) hgb.1 _)
theorem stp_tgt {ops:Array Oper} {o:Oper} {a:Act} {K:Act→World→Prop} {Q:Exit→Act→World→Prop} {E:Prop} (hgd:o.guard=none) (u v:Operand)
  (ho:o.op=.call { callee:=.builtin .append,args:=#[u,v],argTypes:=#[33,33] }) (hO:Owns W B (oRows g y s tl)) (hB:B≤W.heap.size) (hs:a.eval u=.slice s.t.A y.targets.length s.t.c) (l:ByteArray)
  (hx:a.eval v=.slice (some ⟨W.heap.size,0,none⟩) 1 1) (hl:y.targets.length≤1048576)
  (h:∀ A c w',Owns (w'.setCell ⟨g,6,none⟩ (.slice A (y.targets.length+1) c)) B (oRows g { y with targets:=y.targets ++ [l] } { s with t:=⟨A,c⟩ } tl)→w'.cell? ⟨g,6,none⟩=some (.slice s.t.A y.targets.length s.t.c)→w'.frozen? ⟨g,6,none⟩=false→g<w'.heap.size →
    Below B W (w'.setCell ⟨g,6,none⟩ (.slice A (y.targets.length+1) c))→K (a.put o.dst (.slice A (y.targets.length+1) c)) w') :
  if Region.wanted o (yielded ops a.tmps)=true then Oper.wp Tryz.prog o a (W.alloc (.cells #[.string l] 9)) K Q else E:=by
 obtain ⟨i0,hi,hz0,hz1,hz2⟩:=info_parts str_info
 have hw:Region.wanted o (yielded ops a.tmps)=true:=by simp [Region.wanted,hgd]
 rw [if_pos hw]
 have hr:(oRows g y s tl)[5]?=some ⟨9,1,.slice s.t.A y.targets.length s.t.c,y.targets.length,strV y.targets⟩:=rfl
 have hOA:=hO.alloc (.cells #[.string l] 9)
 have hBA:B≤(W.alloc (.cells #[.string l] 9)).heap.size:=by rw [World.size_alloc];omega
 refine wp_append_any _ u v 33 ho B 9 i0 _ 1 16 Tryz.underlying33 hi hz0 hz1 hz2 rfl (by omega) _ y.targets.length _ hs (hOA.at_ hr) _ _ 1 1 [.string l] hx (reads_new W 9 1 1 [.string l] rfl) (by simp [Value.oneCell',lE,fE,eE]) (by simp only [maxLen];omega) (by omega) hBA ?_
 intro v' w' hown hg hat
 obtain ⟨A,c,rfl,_,_⟩:=ownsRow_slice hown
 have hO':=hOA.turn hr hg (r':=⟨9,1,.slice A (y.targets.length+1) c,y.targets.length+1,strV y.targets ++ [.string l]⟩) hown (by
  rcases hat with h2 | h2
  ·exact .inl h2
  ·exact .inr (.inr ⟨_,h2,Nat.le_refl _⟩))
 have hb:=(Below.refl B (W.alloc (.cells #[.string l] 9))).grown hg hBA (fun j hj=>(hOA.lt_ (List.mem_of_getElem? hr) hj).1)
 have hgb:=hO'.base (i:=0) (e:=36) (size:=1) (n:=8) (g:=g) (c:=8) rfl
 exact h A c w' (oR_tgt hO' l rfl rfl) (hO'.cell (i:=0) (j:=6) rfl rfl) (hO'.frozen (i:=0) rfl 6) hgb.2 ((((Below.refl B W).alloc hB _).trans hb).setCell (p:=⟨g,6,none⟩) hgb.1 _)
theorem stp_ent {ops:Array Oper} {o:Oper} {a:Act} {K:Act→World→Prop} {Q:Exit→Act→World→Prop} {E:Prop} (hgd:o.guard=none) (u v:Operand)
  (ho:o.op=.call { callee:=.builtin .append,args:=#[u,v],argTypes:=#[34,34] }) (hO:Owns W B (oRows g y s tl)) (hB:B≤W.heap.size) (hs:a.eval u=.slice s.e.A y.entries.length s.e.c) (l:EntV)
  (hx:a.eval v=.slice (some ⟨W.heap.size,0,none⟩) 1 1) (hl:y.entries.length≤1048576)
  (h:∀ A c w',Owns (w'.setCell ⟨g,7,none⟩ (.slice A (y.entries.length+1) c)) B (oRows g { y with entries:=y.entries ++ [l] } { s with e:=⟨A,c⟩ } tl)→w'.cell? ⟨g,7,none⟩=some (.slice s.e.A y.entries.length s.e.c)→w'.frozen? ⟨g,7,none⟩=false→g<w'.heap.size →
    Below B W (w'.setCell ⟨g,7,none⟩ (.slice A (y.entries.length+1) c))→K (a.put o.dst (.slice A (y.entries.length+1) c)) w') :
  if Region.wanted o (yielded ops a.tmps)=true then Oper.wp Tryz.prog o a (W.alloc (.cells #[.string l.name,.string l.lab] 83)) K Q else E:=by
 obtain ⟨i0,hi,hz0,hz1,hz2⟩:=info_parts ent_info
 have hw:Region.wanted o (yielded ops a.tmps)=true:=by simp [Region.wanted,hgd]
 rw [if_pos hw]
 have hr:(oRows g y s tl)[6]?=some ⟨83,2,.slice s.e.A y.entries.length s.e.c,y.entries.length,y.entries.flatMap eE⟩:=rfl
 have hOA:=hO.alloc (.cells #[.string l.name,.string l.lab] 83)
 have hBA:B≤(W.alloc (.cells #[.string l.name,.string l.lab] 83)).heap.size:=by rw [World.size_alloc];omega
 refine wp_append_any _ u v 34 ho B 83 i0 _ 2 32 Tryz.underlying34 hi hz0 hz1 hz2 rfl (by omega) _ y.entries.length _ hs (hOA.at_ hr) _ _ 1 1 (eE l) hx (reads_new W 83 2 1 (eE l) rfl) (by simp [Value.oneCell',lE,fE,eE]) (by simp only [maxLen];omega) (by omega) hBA ?_
 intro v' w' hown hg hat
 obtain ⟨A,c,rfl,_,_⟩:=ownsRow_slice hown
 have hO':=hOA.turn hr hg (r':=⟨83,2,.slice A (y.entries.length+1) c,y.entries.length+1,y.entries.flatMap eE ++ (eE l)⟩) hown (by
  rcases hat with h2 | h2
  ·exact .inl h2
  ·exact .inr (.inr ⟨_,h2,Nat.le_refl _⟩))
 have hb:=(Below.refl B (W.alloc (.cells #[.string l.name,.string l.lab] 83))).grown hg hBA (fun j hj=>(hOA.lt_ (List.mem_of_getElem? hr) hj).1)
 have hgb:=hO'.base (i:=0) (e:=36) (size:=1) (n:=8) (g:=g) (c:=8) rfl
 exact h A c w' (oR_ent hO' l rfl rfl) (hO'.cell (i:=0) (j:=7) rfl rfl) (hO'.frozen (i:=0) rfl 7) hgb.2 ((((Below.refl B W).alloc hB _).trans hb).setCell (p:=⟨g,7,none⟩) hgb.1 _)
end
theorem ci_info:(Tryz.prog.info? 66).map (fun i=>(i.zero,i.size,i.bytes))=some (some (.agg #[.int .u8 0,.int .u32 0]),2,8):=by kernel_rfl
theorem cb_info:(Tryz.prog.info? 5).map (fun i=>(i.zero,i.size,i.bytes))=some (some (.int .u8 0),1,1):=by kernel_rfl
theorem one_cE (l:List (Int × Int)):∀ u ∈ l.flatMap cE,u.oneCell'=true:=by
 intro u hu
 obtain ⟨t,_,ht⟩:=List.mem_flatMap.1 hu
 simp only [cE,List.mem_cons,List.not_mem_nil,or_false] at ht
 rcases ht with rfl | rfl <;> rfl
theorem own_empty (w:World) (t:TypeId) (size:Nat):Owns (w.alloc (.cells #[] t)) w.heap.size [⟨t,size,.slice (some ⟨w.heap.size,0,none⟩) 0 0,0,[]⟩] :=
 ⟨fun q hq=>by rw [List.mem_singleton.1 hq];exact World.ownsRow_made w #[] 0 (Nat.le_refl _) (Nat.zero_le _) (by simp),List.pairwise_singleton _ _⟩
set_option maxHeartbeats 1000000 in
theorem clone_code (l:List (Int × Int)) (A:Option Addr) (c:Nat) (w:World) (hr:Reads w w.heap.size 2 A l.length (l.flatMap cE)) (hl:l.length≤16384) :
  Calls Tryz.prog 38 #[.slice A l.length c] w fun e w'=>∃ v,e=.returned v∧w'.ownsRow w.heap.size 66 2 v l.length (l.flatMap cE)∧Below w.heap.size w w':=by
 obtain ⟨i0,hi,hz0,hz1,hz2⟩:=info_parts ci_info
 have q22:∀ (w:World) (a:Option Addr) (n c n' c':Nat),(binOp .eql 22 (.slice a n c) (.slice none n' c')).run Tryz.prog w=.ok (.bool a.isNone) w:=fun w a n c n' c'=>Lib.run_eql_slice_nil w _ _ a n c n' c' Tryz.underlying22
 have ONE:=hide_ (one_cE l)
 obtain ⟨xs,hxs⟩:∃ x,x=l.flatMap cE:=⟨_,rfl⟩
 obtain ⟨n,hn⟩:∃ x,x=l.length:=⟨_,rfl⟩
 rw [← hxs,← hn] at hr ⊢
 rw [← hxs] at ONE
 rw [← hn] at hl
 clear hn hxs
 have HR:=hide_ hr
 cases A with
 | none =>
  have h0:n=0:=by
   rcases Nat.eq_zero_or_pos n with h | h
   ·exact h
   ·obtain ⟨ad,h,_⟩:=hr.2 h;cases h
  subst h0
  obtain rfl:xs=[]:=List.eq_nil_of_length_eq_zero (by simpa using hr.1)
  clear hr
  go_enter Tryz.func38,Tryz.ntmps38
  go_wp2
  go_ret
  exact ⟨_,rfl,World.ownsRow_nil _ _ _ _,Below.refl _ _⟩
 | some ad =>
  clear hr
  go_enter Tryz.func38,Tryz.ntmps38
  go_wp2_with (at_builtin;refine wpList_append_owns _ rfl (.tmp 5) (.tmp 6) 22 rfl w.heap.size _ 0 66 2 _ 0 [] rfl (own_empty w 66 2) (by simp) i0 _ 8 Tryz.underlying22 hi hz0 hz1 hz2 rfl (by omega) rfl _ _ n c xs rfl (HR.out.alloc (Nat.le_refl _) _) ONE.out (by simp only [maxLen];omega) (by omega) ?_)
  intro v' w1 hO hb _
  have HO:=hide_ (hO.at_ (i:=0) rfl)
  have HB:=hide_ (((Below.refl _ _).alloc (Nat.le_refl _) _).trans hb)
  clear hO hb
  go_wp2
  go_ret
  have h9:=HO.out
  (try simp only [Nat.zero_add,List.nil_append] at h9)
  exact ⟨v',rfl,h9,HB.out⟩
set_option maxHeartbeats 1000000 in
theorem clone_bytes (l:List Int) (A:Option Addr) (c:Nat) (w:World) (hr:Reads w w.heap.size 1 A l.length (u8s l)) (hl:l.length≤65536) :
  Calls Tryz.prog 39 #[.slice A l.length c] w fun e w'=>∃ v,e=.returned v∧w'.ownsRow w.heap.size 5 1 v l.length (u8s l)∧Below w.heap.size w w':=by
 obtain ⟨i0,hi,hz0,hz1,hz2⟩:=info_parts cb_info
 have q22:∀ (w:World) (a:Option Addr) (n c n' c':Nat),(binOp .eql 24 (.slice a n c) (.slice none n' c')).run Tryz.prog w=.ok (.bool a.isNone) w:=fun w a n c n' c'=>Lib.run_eql_slice_nil w _ _ a n c n' c' Tryz.underlying24
 have ONE:=hide_ (show ∀ u ∈ u8s l,u.oneCell'=true from fun u hu=>by obtain ⟨a,_,rfl⟩:=List.mem_map.1 hu;rfl)
 obtain ⟨xs,hxs⟩:∃ x,x=u8s l:=⟨_,rfl⟩
 obtain ⟨n,hn⟩:∃ x,x=l.length:=⟨_,rfl⟩
 rw [← hxs,← hn] at hr ⊢
 rw [← hxs] at ONE
 rw [← hn] at hl
 clear hn hxs
 have HR:=hide_ hr
 cases A with
 | none =>
  have h0:n=0:=by
   rcases Nat.eq_zero_or_pos n with h | h
   ·exact h
   ·obtain ⟨ad,h,_⟩:=hr.2 h;cases h
  subst h0
  obtain rfl:xs=[]:=List.eq_nil_of_length_eq_zero (by simpa using hr.1)
  clear hr
  go_enter Tryz.func39,Tryz.ntmps39
  go_wp2
  go_ret
  exact ⟨_,rfl,World.ownsRow_nil _ _ _ _,Below.refl _ _⟩
 | some ad =>
  clear hr
  go_enter Tryz.func39,Tryz.ntmps39
  go_wp2_with (at_builtin;refine wpList_append_owns _ rfl (.tmp 5) (.tmp 6) 24 rfl w.heap.size _ 0 5 1 _ 0 [] rfl (own_empty w 5 1) (by simp) i0 _ 1 Tryz.underlying24 hi hz0 hz1 hz2 rfl (by omega) rfl _ _ n c xs rfl (HR.out.alloc (Nat.le_refl _) _) ONE.out (by simp only [maxLen];omega) (by omega) ?_)
  intro v' w1 hO hb _
  have HO:=hide_ (hO.at_ (i:=0) rfl)
  have HB:=hide_ (((Below.refl _ _).alloc (Nat.le_refl _) _).trans hb)
  clear hO hb
  go_wp2
  go_ret
  have h9:=HO.out
  (try simp only [Nat.zero_add,List.nil_append] at h9)
  exact ⟨v',rfl,h9,HB.out⟩
end Go.Proofs.YtikbegmodacopaaGreatDoor
namespace Go.Proofs.YtikbegmodacopaaGreatDoor
open Go.RowKit Go.PlainAid Go.BigFrame
set_option linter.unusedSimpArgs false
set_option linter.unusedVariables false
set_option maxRecDepth 100000
end Go.Proofs.YtikbegmodacopaaGreatDoor
