/-
  The walk of the statement MemNil.
-/
import Derived.Test.YtgppbdcnpailaaaNone
namespace Go.Proofs.Ytgppbdcnpailaaa
open Go.RowKit

theorem Same_left {W : World} {B g d N c : Nat} {xs : List Int} {ex : List Ro} {Q : Option Addr} (h : Seg W B g d N c xs ex) (hQ : NotMade W Q) :
    Calls Try.prog 49 #[.pointer (some ⟨g, 0, none⟩), .pointer Q] W fun e W' => e = .returned (.bool false) ∧ ∃ nq, W' = W.drewN nq := by
  obtain ⟨c0, _⟩ := h.cells
  have n0 := h.seg.pow.bd.1
  have hm := hide_ (show ∀ (p : Option Addr) (b : Bool), (p = some ⟨g, 0, none⟩ ∧ b = true ∨ p = Q ∧ b = false) → ∀ q : Nat, Calls Try.prog 76 #[.pointer p] (W.drewN q) fun e w' => e = .returned (.bool b) ∧ w' = W.drewN q from fun p b hp q => by
    rcases hp with ⟨rfl, rfl⟩ | ⟨rfl, rfl⟩
    · exact made_any g d N c (W.drewN q) c0 n0
    · exact made_not (hQ.drewN q))
  clear h hQ
  go_enter Try.func49, Try.ntmps49
  go_wp2
  go_quiet ((go_at_call 76; exact Calls.quiet_of_same (hm.out _ _ (by first | exact .inl ⟨rfl, rfl⟩ | exact .inr ⟨rfl, rfl⟩) _)))
  go_wp2
  go_ret
  exact ⟨rfl, _, rfl⟩
set_option maxRecDepth 100000 in
set_option maxHeartbeats 1000000 in
theorem MemNil_walk (w : World) : Calls Try.prog 13 #[] w fun e w' => e = .returned (.bool true) ∧ Below w.heap.size w w' := by
  have ha := hide_ (awake_any w)
  go_enter Try.func13, Try.ntmps13
  go_wp2_with fail
  refine ha.out.mono ?_
  rintro e w1 ⟨rfl, hb1⟩
  go_wp2_with fail
  refine (nothing_any (P := none) (.inl rfl)).mono ?_
  rintro e w2 ⟨rfl, hb2⟩
  have hB2 : Below w.heap.size w w2 := hb1.trans (hb2.mono hb1.size)
  have hB3 : Below w.heap.size w (w2.alloc (.cells #[.slice none 0 0, .bool false, .slice none 0 0] 83)) := hB2.alloc hB2.size _
  have hn3 : NotMade (w2.alloc (.cells #[.slice none 0 0, .bool false, .slice none 0 0] 83)) (some ⟨w2.heap.size, 0, none⟩) := .inr ⟨_, rfl, (Blk.new w2 83 #[.slice none 0 0, .bool false, .slice none 0 0]).cell 0, by simp⟩
  have h3 := hide_ (nothing_any hn3)
  have HB3 := hide_ hB3
  clear hn3 hB2 hB3 hb1 hb2
  go_wp2_with fail
  refine h3.out.mono ?_
  rintro e w4 ⟨rfl, hb4⟩
  have hB4 : Below w.heap.size w w4 := HB3.out.trans (hb4.mono HB3.out.size)
  have h4 := hide_ (New_any (W := w4) (B := w.heap.size) (ex := []) 8 (by omega) (by omega) (show 256 = 2 ^ 8 from rfl) (Owns.nil_) hB4.size)
  have HB4 := hide_ hB4
  clear hB4 hb4
  go_wp2_with fail
  refine h4.out.mono ?_
  rintro e w5 ⟨g, d, c, rfl, hO5, hb5⟩
  have hB5 := HB4.out.trans (hb5.mono HB4.out.size)
  have hS5 : Seg w5 w.heap.size g d 256 c zeros256 [] := ⟨⟨_, hO5⟩, hB5.size, ⟨8, by omega, by omega, rfl⟩, by simp [zeros256], fun x hx => by rw [List.eq_of_mem_replicate hx]; omega⟩
  have s5 := Same_off hS5 hS5
  rw [decide_eq_true rfl] at s5
  have S5 := hide_ s5
  have HS5 := hide_ hS5
  have HB5 := hide_ hB5
  clear hO5 hb5 hS5 hB5 s5
  go_wp2_with fail
  refine S5.out.mono ?_
  rintro e w' ⟨rfl, nq6, rfl⟩
  have hS6 := HS5.out.drewN nq6
  have HB6 := hide_ (below_draws2 HB5.out nq6)
  generalize w5.drewN nq6 = w6 at hS6 HB6 ⊢
  have s6 := hide_ (Same_left hS6 (.inl rfl))
  have HS6 := hide_ hS6
  clear hS6 HS5 HB5 S5
  go_wp2_with fail
  refine s6.out.mono ?_
  rintro e w' ⟨rfl, nq7, rfl⟩
  have hS7 := HS6.out.drewN nq7
  have HB7 := hide_ (below_draws2 HB6.out nq7)
  generalize w6.drewN nq7 = w7 at hS7 HB7 ⊢
  have hS8 : Seg (w7.alloc (.cells #[.slice none 0 0, .bool false, .slice none 0 0] 83)) w.heap.size g d 256 c zeros256 [] := by
    obtain ⟨⟨tv, h1⟩, h2, h3, h4, h5⟩ := hS7
    exact ⟨⟨tv, h1.alloc _⟩, by simp; omega, h3, h4, h5⟩
  have hn8 : NotMade (w7.alloc (.cells #[.slice none 0 0, .bool false, .slice none 0 0] 83)) (some ⟨w7.heap.size, 0, none⟩) := .inr ⟨_, rfl, (Blk.new w7 83 #[.slice none 0 0, .bool false, .slice none 0 0]).cell 0, by simp⟩
  have s8 := hide_ (Same_left hS8 hn8)
  have HB8 := hide_ (HB7.out.alloc HB7.out.size (.cells #[.slice none 0 0, .bool false, .slice none 0 0] 83))
  clear hS7 hS8 hn8 s6 HS6
  go_wp2_with fail
  refine s8.out.mono ?_
  rintro e w' ⟨rfl, nq9, rfl⟩
  go_wp2_with fail
  go_ret
  exact ⟨rfl, below_draws2 HB8.out nq9⟩
end Go.Proofs.Ytgppbdcnpailaaa
