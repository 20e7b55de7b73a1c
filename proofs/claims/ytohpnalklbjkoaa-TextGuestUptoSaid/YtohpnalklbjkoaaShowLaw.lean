/-
  The walk of the statement TextShow.
-/
import Derived.Test.YtohpnalklbjkoaaShowT
namespace Go.Proofs.Ytohpnalklbjkoaa
open Go.RowKit Go.PlainAid

theorem Reads.take_ {w : World} {B n k : Nat} {A : Option Addr} {xs : List Value} (h : Reads w B 1 A n xs) (hk : k ≤ n) : Reads w B 1 A k (xs.take k) := by
  refine ⟨by have := h.1; rw [List.length_take]; omega, fun h0 => ?_⟩
  obtain ⟨ad, e, hb, hc⟩ := h.2 (by omega)
  refine ⟨ad, e, hb, fun j u hu => hc j u ?_⟩
  rw [List.getElem?_take] at hu
  split at hu
  · exact hu
  · cases hu
theorem wf_byte {xs : List Int} (h : ∀ x ∈ xs, (Lit.int .u8 x).wf = true) : ∀ x ∈ xs, isByte x := fun x hx => by
  have := h x hx
  unfold isByte
  simpa [Lit.wf, IntKind.min, IntKind.max, IntKind.signed, IntKind.bits] using this
theorem marks_byte (k : Int) (f n : Nat) : ∀ x ∈ marks8 k f n, isByte x := by
  intro x hx
  obtain ⟨i, _, rfl⟩ := List.mem_map.1 hx
  exact mk8_bd _ _
theorem Owns.below_ {w w' : World} {B : Nat} {rs : List Ro} (h : Owns w B rs) (hb : Below w.heap.size w w') : Owns w' B rs := h.below hb

set_option maxRecDepth 100000 in
set_option maxHeartbeats 1000000 in
theorem TextShow_walk (A : Option Addr) (n c : Nat) (xs : List Int) (w : World) (ha : Reads w w.heap.size 1 A n (u8s xs)) (hwf : ∀ x ∈ xs, (Lit.int .u8 x).wf = true) (hnc : n ≤ c) (hc : c ≤ 1048576) :
    Calls Try.prog 6 #[.slice A n c] w fun e w' => e = .returned (.bool true) ∧ Below w.heap.size w w' := by
  have hx := wf_byte hwf
  have la : xs.length = n := by simpa using ha.1
  obtain ⟨S, hS⟩ : ∃ S, S = strOfNums (showL xs) := ⟨_, rfl⟩
  obtain ⟨V, hV⟩ : ∃ V, V = strOfNums (showL ((marks8 (-1) 0 (n + 64)).take n)) := ⟨_, rfl⟩
  go_enter Try.func6, Try.ntmps6
  go_wp2_with (go_at_call 18; refine (LentBytes_any A n c xs w.heap.size w ha (Nat.le_refl _) (by omega)).mono ?_)
  rintro e w1 ⟨v, rfl, hown, hb1⟩
  obtain ⟨g, c1, rfl⟩ := ownsRow_some hown (by omega)
  obtain ⟨_, _, hv0, hc0, hc1⟩ := ownsRow_slice hown
  injection hv0 with e1 e2 e3
  subst e3
  clear e1 e2
  have hgB : w.heap.size ≤ g ∧ g < w1.heap.size := hown.lt g rfl
  have hr1 := (Reads.of_own hown).take_ (k := n) (by omega)
  have ht1 : (u8s (xs ++ marks8 0 0 64)).take n = u8s xs := by rw [← List.map_take, List.take_left' la]
  rw [ht1] at hr1
  have hOwn := hide_ hown
  clear hown ht1
  go_wp2_with (go_at_call 19; refine (tShow_any _ n _ xs w1.heap.size w1 hr1 (Nat.le_refl _) (by omega) hx).mono ?_)
  rintro e w2 ⟨rfl, hb2⟩
  rw [← hS]
  have ha2 := (ha.below hb1).below (hb2.mono hb1.size)
  go_wp2_with (go_at_call 20; refine (rShow_any _ n _ xs w.heap.size w2 ha2 (by have := hb1.size; have := hb2.size; omega) (by omega) hx).mono ?_)
  rintro e w3 ⟨rfl, hb3⟩
  rw [← hS]
  have hB13 : Below w1.heap.size w1 w3 := hb2.trans (hb3.mono hb2.size)
  have hO1 : Owns w1 w.heap.size [⟨5, 1, .slice (some ⟨g, 0, none⟩) (n + 64) c1, n + 64, u8s (xs ++ marks8 0 0 64)⟩] := ⟨fun r hr => by rw [List.mem_singleton.1 hr]; exact hOwn.out, List.pairwise_singleton _ _⟩
  have hO3 := hO1.below hB13
  have hown3 : w3.ownsRow w.heap.size 5 1 (.slice (some ⟨g, 0, none⟩) (n + 64) c1) (n + 64) (u8s (xs ++ marks8 0 0 64)) := hO3.at_ (i := 0) rfl
  have hr3 := Reads.of_own hown3
  have hB03 : Below w.heap.size w w3 := hb1.trans (hB13.mono hb1.size)
  have ha3 := (ha.below hB03).more hB03.size
  go_wp2_with (go_at_call 21; refine (KeptBytes_any _ _ (n + 64) _ n _ (xs ++ marks8 0 0 64) xs w3.heap.size w3 hr3 ha3 (by unfold maxLen; omega) (by unfold maxLen; omega)).mono ?_; rintro e w4 ⟨rfl, nq, rfl⟩)
  have hown4 : (w3.drewN nq).ownsRow w.heap.size 5 1 (.slice (some ⟨g, 0, none⟩) (n + 64) c1) (n + 64) (u8s (xs ++ marks8 0 0 64)) := hown3
  have hB04 : Below w.heap.size w (w3.drewN nq) := ⟨hB03.os, hB03.tape, hB03.output, hB03.size, hB03.block⟩
  obtain ⟨W4, hW4⟩ : ∃ W4, W4 = w3.drewN nq := ⟨_, rfl⟩
  rw [← hW4] at hown4 hB04 ⊢
  clear hown3 hr3 ha3 hO3 hW4
  go_wp2_with (go_at_call 22; refine (OverBytes_any g (n + 64) c1 (xs ++ marks8 0 0 64) w.heap.size W4 hown4 (by unfold maxLen; omega)).mono ?_)
  rintro e w5 ⟨rfl, hown5, hg5, hs5⟩
  have hB05 : Below w.heap.size w w5 := hB04.grown hg5 hB04.size (fun k hk => by cases hk; exact hgB.1)
  have hmb : ∀ x ∈ (marks8 (-1) 0 (n + 64)).take n, isByte x := fun x hx => marks_byte _ _ _ x (List.mem_of_mem_take hx)
  have hr5 := (Reads.of_own hown5).take_ (k := n) (by omega)
  rw [← List.map_take] at hr5
  have hml : ((marks8 (-1) 0 (n + 64)).take n).length = n := by simp [marks8_len]
  go_wp2_with (go_at_call 20; refine (rShow_any _ n _ ((marks8 (-1) 0 (n + 64)).take n) w5.heap.size w5 hr5 (Nat.le_refl _) (by omega) hmb).mono ?_)
  rintro e w6 ⟨rfl, hb6⟩
  rw [← hV]
  go_wp2_with (go_at_call 19; refine (tShow_any _ n _ ((marks8 (-1) 0 (n + 64)).take n) w5.heap.size w6 (hr5.below hb6) hb6.size (by omega) hmb).mono ?_)
  rintro e w7 ⟨rfl, hb7⟩
  rw [← hV]
  have hB07 : Below w.heap.size w w7 := (hB05.trans (hb6.mono hB05.size)).trans (hb7.mono (Nat.le_trans hB05.size hb6.size))
  go_wp2_with (go_at_call 20; refine (rShow_any _ n _ xs w.heap.size w7 (ha.below hB07) hB07.size (by omega) hx).mono ?_)
  rintro e w8 ⟨rfl, hb8⟩
  rw [← hS]
  go_wp2
  go_ret
  exact ⟨by simp, hB07.trans (hb8.mono hB07.size)⟩
end Go.Proofs.Ytohpnalklbjkoaa
