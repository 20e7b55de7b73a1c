/-
  Joined and packed by program.
-/
import Derived.Test.YtikbegmodacopaaGreatDoorQ09
import Derived.Deep.CutRange
import Derived.Test.YtikbegmodacopaaGreatDoorQ01
import Derived.ChangeArms
import Derived.ChangeOld
import Derived.ProofKit
import Derived.SizedLaws
namespace Go.Proofs.YtikbegmodacopaaGreatDoor
open Go.RowKit Go.PlainAid
set_option linter.unusedVariables false
set_option maxRecDepth 100000
end Go.Proofs.YtikbegmodacopaaGreatDoor
namespace Go.Proofs.YtikbegmodacopaaGreatDoor
open Go.RowKit Go.PlainAid
set_option linter.unusedVariables false
set_option maxRecDepth 100000
end Go.Proofs.YtikbegmodacopaaGreatDoor
namespace Go.Proofs.YtikbegmodacopaaGreatDoor
open Go.RowKit Go.PlainAid Go.BigFrame
set_option linter.unusedVariables false
set_option maxRecDepth 100000
end Go.Proofs.YtikbegmodacopaaGreatDoor
namespace Go.Proofs.YtikbegmodacopaaGreatDoor
set_option maxRecDepth 100000
open Go.RowKit
theorem okWide_struct {P:Program} {w:World} {r:Reach} {base:Nat} {t:TypeId} {v:Value} {fs:Array Field} (ht:P.underlying t=some (.struct fs)) (h:Value.okWide P w r base t v):∃ l:List Value,v=.agg l.toArray:=by
 simp only [Value.okWide,ht] at h
 obtain ⟨cs,rfl,_,_⟩:=h
 exact ⟨cs.toList,by simp⟩
theorem skolem_lt {α:Type} [Inhabited α] {n:Nat} {p:Nat→α→Prop} (h:∀ i,i<n→∃ x,p i x):∃ f:Nat→α,∀ i,i<n→p i (f i):=by
 classical
 exact ⟨fun i=>if hi:i<n then Classical.choose (h i hi) else default,fun i hi=>by simp only [dif_pos hi];exact Classical.choose_spec (h i hi)⟩
section
variable {H:Type} {enc:TypeId × Value→H} {P:Program} {w:World} {held:Bool}
def Seen (enc:TypeId × Value→H) (P:Program) (w:World) (held:Bool) (t:TypeId) (cs:List Value):Prop :=
 ∃ n d p,DataW.trod enc P w 0 (fun _=>true) held n t cs=some (d,p)∧∀ x ∈ DataW.weights P t d,x≤reachBytes
theorem weights_all {e:TypeId} {l:List (DataW H)} {d:DataW H} (hd:d ∈ l):∀ x ∈ DataW.weights P e d,x ∈ DataW.weightsAll P e l:=by
 induction l with
 | nil=>cases hd
 | cons a r ih =>
  intro x hx
  rw [DataW.weightsAll]
  rcases List.mem_cons.1 hd with rfl | hr
  ·exact List.mem_append_left _ hx
  ·exact List.mem_append_right _ (ih hr x hx)
theorem seen_int {t:TypeId} {k:IntKind} {cs:List Value} (ht:P.underlying t=some (.int k)) (h:Seen enc P w held t cs):∃ a,cs=[.int k a]∧(Lit.int k a).wf=true:=by
 obtain ⟨n,d,p,h,_⟩:=h
 cases n with
 | zero=>simp [DataW.trod] at h
 | succ n =>
  unfold DataW.trod at h
  rw [ht] at h
  split at h <;> simp_all
theorem seen_string {t:TypeId} {cs:List Value} (ht:P.underlying t=some .string) (h:Seen enc P w held t cs):∃ s:ByteArray,cs=[.string s]∧s.size≤reachBytes:=by
 obtain ⟨n,d,p,h,hw⟩:=h
 cases n with
 | zero=>simp [DataW.trod] at h
 | succ n =>
  unfold DataW.trod at h
  rw [ht] at h
  split at h <;> simp_all
  rename_i s
  obtain ⟨_,rfl,_⟩:=h
  simpa [DataW.weights] using hw
theorem seen_struct {t:TypeId} {fs:Array Field} {cs:List Value} (ht:P.underlying t=some (.struct fs)) (h:Seen enc P w held t cs) :
  cs.length=P.cellsOf t∧∀ (i:Nat) (f:Field),fs[i]?=some f→Seen enc P w held f.type ((cs.drop f.offset).take (P.cellsOf f.type)):=by
 obtain ⟨n,d,p,h,hw⟩:=h
 obtain ⟨xs,m,rfl,hx,hl,hlen,hf⟩:=DataW.trod_struct ht h
 refine ⟨hl,fun i f hi=>?_⟩
 have hg:=hf i f hi
 have hil:i<xs.length:=by rw [hlen];exact (Array.getElem?_eq_some_iff.1 hi).1
 rw [List.getElem?_eq_getElem hil] at hg
 injection hx with hd _
 subst hd
 refine ⟨m,xs[i].1,xs[i].2,hg,fun x hx=>hw x ?_⟩
 rw [DataW.weights,ht]
 exact DataW.weights_mem_each (j:=i) (t:=f.type) (d:=xs[i].1) (by rw [List.getElem?_map,Array.getElem?_toList,hi];rfl) (by rw [List.getElem?_map,List.getElem?_eq_getElem hil];rfl) x hx
theorem seen_slice {t e:TypeId} {cs:List Value} (ht:P.underlying t=some (.slice e)) (he:0<P.cellsOf e) (h:Seen enc P w held t cs) :
  ∃ A n c,cs=[.slice A n c]∧n≤c∧c≤maxLen∧c * P.bytesOf e≤reachBytes ∧
   (0<n→∃ ad,A=some ad∧ad.block<w.heap.size∧∀ i,i<n→∃ vs,vs.length=P.cellsOf e∧(∀ j,j<P.cellsOf e→w.cell? ((ad.add (i * P.cellsOf e)).add j)=vs[j]?)∧Seen enc P w held e vs):=by
 obtain ⟨n,d,p,h,hw⟩:=h
 rcases DataW.trod_slice ht h with ⟨rfl,_⟩ | ⟨a,len,cap,elems,rest,m,_,rfl,hx,_,hl,hc,hlen,hel,hre,_⟩
 ·exact ⟨none,0,0,rfl,Nat.le_refl _,Nat.zero_le _,by simp,fun h=>absurd h (by omega)⟩
 ·injection hx with hd _
  subst hd
  have hr:=(hre rfl).1
  have hall:∀ i,i<len→∃ vs,vs.length=P.cellsOf e∧(∀ j,j<P.cellsOf e→w.cell? ((a.add (i * P.cellsOf e)).add j)=vs[j]?)∧Seen enc P w held e vs∧a.block<w.heap.size:=by
   intro i hi
   have hE:=hel i hi
   have hil:i<elems.length:=by omega
   rw [List.getElem?_eq_getElem hil] at hE
   simp only [Option.bind_eq_some_iff] at hE
   obtain ⟨vs,hvs,htr⟩:=hE
   have hcs:=World.cells?_some hvs
   have hb:=World.cells?_block hvs he
   rw [block_of_add] at hb
   refine ⟨vs,hcs.2.1,hcs.2.2,⟨m,elems[i].1,elems[i].2,htr,fun x hx=>hw x ?_⟩,hb⟩
   rw [DataW.weights,ht]
   exact List.mem_cons_of_mem _ (List.mem_append_left _ (weights_all (List.mem_map.2 ⟨_,List.getElem_mem hil,rfl⟩) x hx))
  refine ⟨some a,len,cap,rfl,hl,hc,?_,fun h0=>⟨a,rfl,?_,fun i hi=>?_⟩⟩
  ·have h9:=hw (((elems.map (·.1)).length+(rest.map (·.1)).length) * P.bytesOf e) (by rw [DataW.weights,ht];exact List.mem_cons_self ..)
   rw [List.length_map,List.length_map,hlen,hr,Nat.add_sub_cancel' hl] at h9
   exact h9
  ·obtain ⟨_,_,_,_,hb⟩:=hall 0 h0
   exact hb
  ·obtain ⟨vs,h1,h2,h3,_⟩:=hall i hi
   exact ⟨vs,h1,h2,h3⟩
theorem seen_ints {t e:TypeId} {k:IntKind} {cs:List Value} (ht:P.underlying t=some (.slice e)) (he:P.underlying e=some (.int k)) (hc:P.cellsOf e=1) (h:Seen enc P w held t cs) :
  ∃ (A:Option Addr) (n c:Nat) (xs:List Int),cs=[.slice A n c]∧n≤c∧c≤maxLen∧c * P.bytesOf e≤reachBytes∧Reads w w.heap.size 1 A n (xs.map (Value.int k))∧∀ x ∈ xs,(Lit.int k x).wf=true:=by
 obtain ⟨A,n,c,rfl,h1,h2,h3,h4⟩:=seen_slice ht (by omega) h
 rcases Nat.eq_zero_or_pos n with rfl | hn
 ·exact ⟨A,0,c,[],rfl,h1,h2,h3,⟨by simp,fun h=>absurd h (by omega)⟩,by simp⟩
 ·obtain ⟨ad,rfl,hb,hi⟩:=h4 hn
  have hv:∀ i,i<n→∃ a:Int,w.cell? (ad.add i)=some (.int k a)∧(Lit.int k a).wf=true:=by
   intro i hlt
   obtain ⟨vs,hl,hcell,hs⟩:=hi i hlt
   obtain ⟨a,rfl,hw⟩:=seen_int he hs
   have:=hcell 0 (by omega)
   rw [hc,Nat.mul_one,add_of_add,Nat.add_zero] at this
   exact ⟨a,this,hw⟩
  obtain ⟨f,hf⟩:=skolem_lt hv
  refine ⟨some ad,n,c,(List.range n).map f,rfl,h1,h2,h3,⟨by simp,fun _=>⟨ad,rfl,hb,fun j u hu=>?_⟩⟩,fun x hx=>?_⟩
  ·have hj:j<n:=by
    have:=(List.getElem?_eq_some_iff.1 hu).1
    simpa using this
   have hu':u=.int k (f j):=by simpa [hj] using hu.symm
   rw [(hf j hj).1,hu']
  ·obtain ⟨j,hj,rfl⟩:=List.mem_map.1 hx
   exact (hf j (List.mem_range.1 hj)).2
end
end Go.Proofs.YtikbegmodacopaaGreatDoor
namespace Go.Proofs.YtikbegmodacopaaGreatDoor
set_option maxRecDepth 100000
open Go.RowKit
section
variable {H:Type} {enc:TypeId × Value→H} {P:Program} {w:World} {held:Bool}
end
end Go.Proofs.YtikbegmodacopaaGreatDoor
