/-
  Same of two slots, by the segments and by the document's; a log that was told is put aside.
-/
import Derived.Test.YtgppbdcnpailaaaMake
namespace Go.Proofs.Ytgppbdcnpailaaa
open Go.RowKit
set_option linter.unusedVariables false
set_option linter.unusedSimpArgs false

/-- a slot's segment, as it is read -/
structure MemAtR (W : World) (s : SegV) : Prop where
  c0 : W.cell? ⟨s.g, 0, none⟩ = some (.slice (some ⟨s.d, 0, none⟩) s.N s.c)
  c1 : ∀ i, i < s.N → W.cell? ⟨s.d, 0 + i, none⟩ = some (.int .u8 (s.xs.getD i 0))
  r0 : W.cell? ⟨s.r, 0, none⟩ = some (.slice (some ⟨s.b, 0, none⟩) s.N s.rc)
  r1 : Reads W W.heap.size 1 (some ⟨s.b, 0, none⟩) s.N (u8s s.xs)
theorem seg_at {W : World} {B : Nat} {l : List Ro} {s : SegV} (hO : Owns W B l) (hm : ∀ ro ∈ segRows s, ro ∈ l) (hs : SegOk s) : MemAtR W s := by
  have key : ∀ {e : TypeId} {g n c : Nat} {xs : List Value} {j : Nat} {u : Value}, (⟨e, 1, .slice (some ⟨g, 0, none⟩) n c, n, xs⟩ : Ro) ∈ l → xs[j]? = some u → W.cell? ⟨g, j, none⟩ = some u := fun h hu => by
    obtain ⟨i, hi⟩ := List.getElem?_of_mem h
    exact hO.cell (i := i) hi hu
  refine ⟨key (j := 0) (hm _ (.head _)) rfl, fun i hi => ?_, key (j := 0) (hm _ (.tail _ (.tail _ (.tail _ (.head _))))) rfl, Reads.of_own (hO.1 _ (hm _ (.tail _ (.tail _ (.tail _ (.tail _ (.head _)))))))⟩
  rw [Nat.zero_add]
  refine key (j := i) (hm _ (.tail _ (.head _))) ?_
  rw [u8s_get (by rw [hs.len]; exact hi), List.getD_eq_getElem?_getD]
theorem MemAtR.drewN {W : World} {s : SegV} (h : MemAtR W s) (k : Nat) : MemAtR (W.drewN k) s := ⟨h.c0, h.c1, h.r0, h.r1.drewN k⟩
def sameO : Option SegV → Option SegV → Bool
  | some a, some b => decide (a.xs = b.xs)
  | _, _ => false
theorem sameO_none (s : Option SegV) : sameO none s = false := by cases s <;> rfl
theorem made_gen (P : Option Addr) (b : Bool) (W : World) (h : (P = none ∧ b = false) ∨ (∃ g d N c, P = some ⟨g, 0, none⟩ ∧ W.cell? ⟨g, 0, none⟩ = some (.slice (some ⟨d, 0, none⟩) N c) ∧ 0 < N ∧ b = true)) :
    Calls Try.prog 76 #[.pointer P] W fun e w' => e = .returned (.bool b) ∧ w' = W := by
  rcases h with ⟨rfl, rfl⟩ | ⟨g, d, N, c, rfl, h, h0, rfl⟩
  · exact made_nil W
  · exact made_any g d N c W h h0
theorem mSame_core {W : World} {g d N c g' d' N' c' : Nat} {xs ys : List Int} (hx : xs.length = N) (hy : ys.length = N') (c0 : W.cell? ⟨g, 0, none⟩ = some (.slice (some ⟨d, 0, none⟩) N c)) (c1 : ∀ i, i < N → W.cell? ⟨d, 0 + i, none⟩ = some (.int .u8 (xs.getD i 0)))
    (c2 : W.cell? ⟨g', 0, none⟩ = some (.slice (some ⟨d', 0, none⟩) N' c')) (c3 : ∀ i, i < N' → W.cell? ⟨d', 0 + i, none⟩ = some (.int .u8 (ys.getD i 0))) (n0 : 0 < N) (n2 : 0 < N') (hxo : bytesOk xs) (hyo : bytesOk ys) :
    Calls Try.prog 49 #[.pointer (some ⟨g, 0, none⟩), .pointer (some ⟨g', 0, none⟩)] W fun e W' => e = .returned (.bool (decide (xs = ys))) ∧ ∃ nq, W' = W.drewN nq := by
  have hq := hide_ (fun q : Nat => bytesEqual_any (W := W.drewN q) (c := c) (c' := c') hx hy c1 c3 hxo hyo)
  clear c1 c3 hx hy hxo hyo
  go_enter Try.func49, Try.ntmps49
  go_wp2
  go_quiet (first
    | (go_at_call 76; exact Calls.quiet_of_same (made_any _ _ _ _ _ (by first | exact c0 | exact c2) (by first | exact n0 | exact n2)))
    | (go_at_call 82; exact Calls.quiet_of_same (hq.out _)))
  go_wp2
  go_ret
  exact ⟨rfl, _, rfl⟩
set_option maxRecDepth 100000 in
theorem mSame_o (s0 s1 : Option SegV) (W : World) (h0 : ∀ s, s0 = some s → MemAtR W s ∧ SegOk s) (h1 : ∀ s, s1 = some s → MemAtR W s ∧ SegOk s) :
    Calls Try.prog 49 #[.pointer (mA s0), .pointer (mA s1)] W fun e W' => e = .returned (.bool (sameO s0 s1)) ∧ ∃ nq, W' = W.drewN nq := by
  cases s0 with
  | none =>
    have hm := hide_ (fun q : Nat => made_nil (W.drewN q))
    rw [sameO_none, show mA none = none from rfl]
    generalize mA s1 = Q
    clear h0 h1
    go_enter Try.func49, Try.ntmps49
    go_wp2
    go_quiet ((go_at_call 76; exact Calls.quiet_of_same (hm.out _)))
    go_wp2
    go_ret
    exact ⟨rfl, _, rfl⟩
  | some a =>
    obtain ⟨⟨c0, c1, _, _⟩, k0⟩ := h0 _ rfl
    have n0 := k0.seg.pow.bd.1
    cases s1 with
    | none =>
      rw [show mA none = none from rfl, show mA (some a) = some ⟨a.g, 0, none⟩ from rfl, show sameO (some a) none = false from rfl]
      obtain ⟨ga, da, ca, ra, ba, rca, Na, ona, tva, lva, tsa, xsa⟩ := a
      clear h0 h1 c1 k0
      go_enter Try.func49, Try.ntmps49
      go_wp2
      go_quiet ((go_at_call 76; exact Calls.quiet_of_same (made_gen _ _ _ (by first | exact .inl ⟨rfl, rfl⟩ | exact .inr ⟨_, _, _, _, rfl, c0, n0, rfl⟩))))
      go_wp2
      go_ret
      exact ⟨rfl, _, rfl⟩
    | some b =>
      obtain ⟨⟨c2, c3, _, _⟩, k1⟩ := h1 _ rfl
      exact mSame_core k0.len k1.len c0 c1 c2 c3 n0 k1.seg.pow.bd.1 k0.ok k1.ok
theorem rSame_o (s0 s1 : Option SegV) (W : World) (h0 : ∀ s, s0 = some s → MemAtR W s ∧ SegOk s) (h1 : ∀ s, s1 = some s → MemAtR W s ∧ SegOk s) :
    Calls Try.prog 126 #[.pointer (rA s0), .pointer (rA s1)] W fun e W' => e = .returned (.bool (sameO s0 s1)) ∧ ∃ nq, W' = W.drewN nq := by
  cases s0 with
  | none =>
    rw [sameO_none]
    exact rSame_nil none (rA s1) W (.inl rfl)
  | some a =>
    cases s1 with
    | none => exact rSame_nil (rA (some a)) none W (.inr rfl)
    | some b =>
      obtain ⟨k0, k1⟩ := h0 _ rfl
      obtain ⟨k2, k3⟩ := h1 _ rfl
      have n0 := k1.seg.bd
      have n1 := k3.seg.bd
      exact rSame_any a.r a.N a.rc b.r b.N b.rc _ _ a.xs b.xs W k0.r0 k2.r0 k0.r1 k2.r1 (by omega) (by omega)
def noteRows (t : NoteV) : List Ro := [touchR t.A t.n t.c t.ts, touchR t.A' t.n t.c' t.ts]
/-- slot a's segment after rest, and the log that was told -/
def RestPost (W' : World) (B q : Nat) (s0 : Option SegV) (ps : List Value) (gv kv : Value) (G : List AnsV) (T : List NoteV) (ex : List Ro) : Prop :=
  ∃ s nv wv Tn, mA s = mA s0 ∧ rA s = rA s0 ∧ SlotOk s ∧ Owns W' B (wHeadL q ps gv kv nv wv G (T ++ Tn) ++ (Tn.flatMap noteRows ++ (slotRows s ++ ex))) ∧ Tn.length ≤ 1 ∧ ∀ t ∈ Tn, t.n ≤ 65536
end Go.Proofs.Ytgppbdcnpailaaa
