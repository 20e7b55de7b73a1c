/-
  XKit's append law inside a fence.
-/
import Derived.OwnWalkIn
import Derived.Test.YtmbofpeedjlfhaaDoorKit
namespace Go.Proofs.YtmbofpeedjlfhaaDoor
set_option maxRecDepth 100000
open Go.RowKit

theorem Owns.under {w : World} {B : Nat} {rs : List Ro} (h : Owns w B rs) {a : Addr} (ha : a.block < B) (u : Value) : Owns (w.setCell a u) B rs :=
  ⟨fun r hr => ownsRow_setCell_below (h.1 r hr) ha u, h.2⟩

theorem reads_at (w : World) (t : TypeId) (size n : Nat) (us : List Value) (hl : us.length = n * size) (b : Nat) (hb : b = w.heap.size) : Reads (w.alloc (.cells us.toArray t)) (w.heap.size + 1) size (some ⟨b, 0, none⟩) n us := by
  subst hb
  exact reads_new w t size n us hl

theorem wpListIn_append_owns {F : Fence} {nF : Nat} {P : Program} (w : World) {ops : Array Oper} {rest : List Oper} {o : Oper} {a : Act} {Q : Exit → Act → World → Prop} (hgd : o.guard = none) (s x : Operand) (t : TypeId)
    (ho : o.op = .call { callee := .builtin .append, args := #[s, x], argTypes := #[t, t] })
    (B : Nat) (rs : List Ro) (k : Nat) (e : TypeId) (size : Nat) (v : Value) (n : Nat) (xs : List Value) (hr : rs[k]? = some ⟨e, size, v, n, xs⟩) (hO : Owns w B rs) (hB : B ≤ w.heap.size)
    (i : TypeInfo) (z : Value) (bytes : Nat) (ht : P.underlying t = some (.slice e)) (hi : P.info? e = some i) (hz : i.zero = some z)
    (hsize : i.size = size) (hby : i.bytes = bytes) (hzs : z.cells.size = size) (hsz : 0 < size)
    (hs : a.eval s = v)
    (B' : Nat) (A : Option Addr) (m c : Nat) (news : List Value) (hx : a.eval x = .slice A m c) (hn : Reads w B' size A m news) (h1 : ∀ u ∈ news, u.oneCell' = true)
    (h63 : n + m ≤ maxLen) (hbytes : (n + m) * bytes ≤ 140737488355328)
    (h : ∀ v' w', Owns w' B (rs.set k ⟨e, size, v', n + m, xs ++ news⟩) → Below B w w' → w.heap.size ≤ w'.heap.size → wpListIn F nF P ops Q rest (a.put o.dst v') w') : wpListIn F nF P ops Q (o :: rest) a w := by
  refine wpListIn_plain hgd fun K hK => ?_
  obtain ⟨v', w', hrun, hown, hg, hat⟩ := run_append_any (P := P) w B t o.type e i z size bytes ht hi hz hsize hby hzs hsz v n xs (hO.at_ hr) B' A m c news hn h1 h63 hbytes hB
  unfold Oper.wpIn
  refine ⟨by simp [Oper.about, ho, resolve, Target.leads, Sem.run_pure], ?_⟩
  rw [Oper.semAt_plain F _ _ (by rw [ho]; intro c hc'; cases hc')]
  simp [execOp, ho, resolve, invoke, builtin, hs, hx, hrun, Result.andThen]
  refine hK _ _ (h v' w' (hO.turn hr hg hown ?_) ((Below.refl _ _).grown hg hB (fun j hj => (hO.lt_ (List.mem_of_getElem? hr) hj).1)) hg.size)
  rcases hat with h2 | h2
  · exact .inl h2
  · exact .inr (.inr ⟨_, h2, Nat.le_refl _⟩)
end Go.Proofs.YtmbofpeedjlfhaaDoor
