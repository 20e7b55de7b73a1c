/-
  A region that draws its order and only reads, IN A ROUND of a range over a function: the quiet walk serves there too.
-/
import Derived.Sort.QuietIn
import Derived.RangeFuncCalls
import Derived.Test.YtohpnalklbjkoaaProg
namespace Go.Proofs.Ytohpnalklbjkoaa
open Go

def noDefer (o : Oper) : Bool := match o.op with | .defer _ => false | _ => true
theorem noDefer_ne {o : Oper} (h : noDefer o = true) : ∀ c, o.op ≠ .defer c := fun c e => by unfold noDefer at h; rw [e] at h; cases h
theorem oper_round {F : Fence} {n : Nat} {P : Program} {o : Oper} {l : Nat} (hd : noDefer o = true) (a : Act) (w : World) (next : Act → World → Prop) (Q : Exit → Act → World → Prop) :
    o.wpIn (F.inRound l) n P a w next Q = o.wpIn F n P a w next Q := by
  unfold Oper.wpIn
  rw [Oper.semAt_eq _ _ _ (noDefer_ne hd), Oper.semAt_eq _ _ _ (noDefer_ne hd)]
  rfl
theorem opIn_round {F : Fence} {n : Nat} {P : Program} {ops : Array Oper} {l : Nat} (hd : ∀ o ∈ ops, noDefer o = true) (Q : Exit → Act → World → Prop) (i : Nat) (K : Act → World → Prop) (a : Act) (w : World) :
    wpOpIn (F.inRound l) n P ops Q i K a w = wpOpIn F n P ops Q i K a w := by
  unfold wpOpIn
  cases ho : ops[i]? with
  | none => rfl
  | some o =>
    have h := oper_round (F := F) (n := n) (P := P) (l := l) (hd o (Array.mem_of_getElem? ho)) a w K Q
    simp only [h]
    rfl
theorem any_round {F : Fence} {n : Nat} {P : Program} {ops : Array Oper} {l : Nat} {md : Region.Mode} (hd : ∀ o ∈ ops, noDefer o = true) (Q : Exit → Act → World → Prop) :
    ∀ (fuel : Nat) (listed : Array Bool), wpAnyIn (F.inRound l) n P md ops Q fuel listed = wpAnyIn F n P md ops Q fuel listed := by
  intro fuel
  induction fuel with
  | zero => intro listed; rfl
  | succ fuel ih =>
    intro listed
    funext a w
    simp only [wpAnyIn, ih, opIn_round hd]
theorem wpIn_region_quiet_round {F : Fence} {n : Nat} {P : Program} {id k : Nat} {Q : Exit → Act → World → Prop} {a : Act} {w : World} {l : List Oper} (hro : F.round = none) (hm : P.follows .mixedOrders = true) (hB : Region.lexB .any l.toArray = true) (hd : l.all noDefer = true)
    (h : wpQuietIn F n P l.toArray (fun w' => ∃ n, w' = w.drewN n) (fun a' => ∀ w', (∃ n, w' = w.drewN n) → Q .normal a' w') l a) : (Code.region id l.toArray true).wpIn (F.inRound k) n P Q a w := by
  simp only [Region.lexB, Bool.and_eq_true] at hB
  refine wpIn_region_any hm ?_
  rw [any_round (fun o ho => List.all_eq_true.1 hd o (by simpa using ho))]
  refine wpAnyIn_of_quiet (C := fun w' => ∃ n, w' = w.drewN n) (Q := fun a' => ∀ w', (∃ n, w' = w.drewN n) → Q .normal a' w') hro (fun _ w' hw' h => h w' hw') _ _ _ _ ⟨1, rfl⟩ ?_
  have := wpAnyQIn_lex (F := F) (n := n) (C := fun w' => ∃ n, w' = w.drewN n) (md := .any) hB.1 l 0 (Array.replicate l.toArray.size false) a (by simp) (by simpa using hB.2) h
  simpa using this
end Go.Proofs.Ytohpnalklbjkoaa
