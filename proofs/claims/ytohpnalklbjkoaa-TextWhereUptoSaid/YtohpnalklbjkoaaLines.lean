/-
  The statement TextLines: plain law and walk.
-/
import Derived.Test.YtohpnalklbjkoaaWhere
import Derived.Test.YtohpnalklbjkoaaCode
namespace Go.Proofs.Ytohpnalklbjkoaa
open Go.RowKit Go.PlainAid

theorem sorted_len (l : List (Nat × Int)) (k : Nat) : ∀ i, l.Pairwise (fun x y => x.1 < y.1) → (∀ x ∈ l, i ≤ x.1 ∧ x.1 < k) → l.length ≤ k - i := by
  induction l with
  | nil => intro i _ _; simp
  | cons x l ih =>
    intro i hp hb
    have h1 := hb x (by simp)
    have := ih (x.1 + 1) (List.pairwise_cons.1 hp).2 (fun y hy => ⟨(List.pairwise_cons.1 hp).1 y hy, (hb y (by simp [hy])).2⟩)
    rw [List.length_cons]
    omega
theorem colN_le (s : ByteArray) (first k : Nat) : colN s first k ≤ k + 1 := by
  unfold colN
  have h1 := colL_le ((cuts s).filter fun x => decide (x.1 < k)) first
  have h2 := sorted_len ((cuts s).filter fun x => decide (x.1 < k)) k 0 ((cuts_sorted s).filter _) (fun x hx => ⟨Nat.zero_le _, by have := (List.mem_filter.1 hx).2; simpa using this⟩)
  omega
theorem colN_one (s : ByteArray) (k : Nat) : colN s k k = 1 := by
  unfold colN colL
  have : ((cuts s).filter fun x => decide (x.1 < k)).filter (fun x => decide (k ≤ x.1)) = [] := by
    rw [List.filter_eq_nil_iff]
    intro x hx
    have := (List.mem_filter.1 hx).2
    simp at this ⊢
    exact this
  rw [this]
  rfl
theorem colN_more (s : ByteArray) (first k : Nat) (r : Int) (hm : (first, r) ∈ cuts s) (hk : first < k) : 1 < colN s first k := by
  unfold colN colL
  have : (first, r) ∈ ((cuts s).filter fun x => decide (x.1 < k)).filter (fun x => decide (first ≤ x.1)) := by
    rw [List.mem_filter, List.mem_filter]
    exact ⟨⟨hm, by simpa using hk⟩, by simp⟩
  have := List.length_pos_of_mem this
  omega
theorem code_tail (v k : Nat) (h0 : 0 < k) (h1 : k < (codeL v).length) : 128 ≤ (codeL v)[k]?.getD 0 := by
  by_cases a : v < 128
  · have e : codeL v = [v] := by unfold codeL; rw [if_pos a]
    rw [e] at h1
    simp at h1
    omega
  by_cases b : v < 2048
  · have e : codeL v = [192 + v / 64, 128 + v % 64] := by unfold codeL; rw [if_neg a, if_pos b]
    rw [e] at h1 ⊢
    match k, h0, h1 with
    | 1, _, _ => simp
    | k + 2, _, h1 => simp only [List.length_cons, List.length_nil] at h1; omega
  by_cases c : v < 65536
  · have e : codeL v = [224 + v / 4096, 128 + v / 64 % 64, 128 + v % 64] := by unfold codeL; rw [if_neg a, if_neg b, if_pos c]
    rw [e] at h1 ⊢
    match k, h0, h1 with
    | 1, _, _ => simp
    | 2, _, _ => simp
    | k + 3, _, h1 => simp only [List.length_cons, List.length_nil] at h1; omega
  · have e : codeL v = [240 + v / 262144, 128 + v / 4096 % 64, 128 + v / 64 % 64, 128 + v % 64] := by unfold codeL; rw [if_neg a, if_neg b, if_neg c]
    rw [e] at h1 ⊢
    match k, h0, h1 with
    | 1, _, _ => simp
    | 2, _, _ => simp
    | 3, _, _ => simp
    | k + 4, _, h1 => simp only [List.length_cons, List.length_nil] at h1; omega
theorem cut_tail (s : ByteArray) (i k : Nat) (hi : i < s.size) (h0 : 0 < k) (h1 : k < cutN s i) : 128 ≤ bn s (i + k) := by
  by_cases hl : lost s i
  · have : cutN s i = 1 := hl.2
    omega
  · obtain ⟨_, hm, hcn⟩ := cut_code s i hi hl
    rw [hm.2 k (by omega)]
    exact code_tail _ k h0 (by omega)
theorem cut_ascii (s : ByteArray) (i : Nat) (hi : i < s.size) (h : bn s i < 128) : cutN s i = 1 := by
  unfold cutN
  rw [decode_ascii s i hi (by rw [bn_eq s i hi]; exact h)]
/-- behind a line end a rune begins -/
theorem begins_at (s : ByteArray) (j : Nat) (hj : bn s j = 10) (hs : j + 1 < s.size) : ∀ (d i : Nat), s.size - i ≤ d → i ≤ j → ∃ r, (j + 1, r) ∈ cutsAt s i := by
  intro d
  induction d with
  | zero => intro i h1 h2; omega
  | succ d ih =>
    intro i h1 h2
    have hi : i < s.size := by omega
    have hp := cutN_pos s i
    rw [cutsAt_lt s i hi]
    rcases Nat.lt_or_ge j (i + cutN s i) with c | c
    · have hji : j = i := by
        rcases Nat.eq_or_lt_of_le h2 with e | e
        · exact e.symm
        · have := cut_tail s i (j - i) hi (by omega) (by omega)
          rw [show i + (j - i) = j by omega] at this
          omega
      subst hji
      have h1 := cut_ascii s j hi (by omega)
      rw [h1, cutsAt_lt s (j + 1) hs]
      exact ⟨cutR s (j + 1), by simp⟩
    · obtain ⟨r, hr⟩ := ih (i + cutN s i) (by omega) c
      exact ⟨r, by simp [hr]⟩
theorem beginN_is (s : ByteArray) (k : Nat) : beginN s k = 0 ∨ ∃ j, j < k ∧ beginN s k = j + 1 ∧ bn s j = 10 := by
  induction k with
  | zero => exact .inl rfl
  | succ k ih =>
    rw [beginN]
    by_cases c : bn s k = 10
    · rw [if_pos c]
      exact .inr ⟨k, by omega, rfl, c⟩
    · rw [if_neg c]
      rcases ih with h | ⟨j, h1, h2, h3⟩
      · exact .inl h
      · exact .inr ⟨j, by omega, h2, h3⟩
theorem line_begin (s : ByteArray) (k : Nat) (h0 : 0 < k) (hk : k ≤ s.size) (h : bn s (k - 1) ≠ 10) : 1 < colN s (beginN s k) k := by
  have hlt : beginN s k < k := by
    obtain ⟨m, rfl⟩ : ∃ m, k = m + 1 := ⟨k - 1, by omega⟩
    rw [beginN, if_neg (by simpa using h)]
    have := beginN_le s m
    omega
  have hm : ∃ r, (beginN s k, r) ∈ cuts s := by
    rcases beginN_is s k with e | ⟨j, h1, h2, h3⟩
    · rw [e, cuts_at, cutsAt_lt s 0 (by omega)]
      exact ⟨cutR s 0, by simp⟩
    · rw [h2, cuts_at]
      exact begins_at s j h3 (by omega) s.size 0 (by omega) (Nat.zero_le _)
  obtain ⟨r, hr⟩ := hm
  exact colN_more s _ k r hr hlt
theorem line_end (s : ByteArray) (k : Nat) (h : k = 0 ∨ bn s (k - 1) = 10) : colN s (beginN s k) k = 1 := by
  have : beginN s k = k := by
    rcases h with rfl | h
    · rfl
    · cases k with
      | zero => rfl
      | succ m => rw [beginN, if_pos (by simpa using h)]
  rw [this]
  exact colN_one s k

theorem Pick_at (x n : Int) (w : World) (hn : 1 ≤ n) (hn' : n ≤ 9223372036854775807) :
    Calls Try.prog 16 #[.int .i64 x, .int .i64 n] w fun e w' => e = .returned (.int .i64 (x % n)) ∧ w = w' := by
  have h1 : ¬ n < 1 := by omega
  have h0 : (n == 0) = false := by rw [beq_eq_false_iff_ne]; omega
  have hm0 := Int.emod_nonneg x (show n ≠ 0 by omega)
  have hm1 := Int.emod_lt_of_pos x (show 0 < n by omega)
  by_cases hneg : x.tmod n < 0
  · have e : x % n = x.tmod n + n := by
      have := Int.tmod_eq_emod (a := x) (b := n)
      rw [this]
      split
      · rename_i h
        rw [this, if_pos h] at hneg
        omega
      · rw [show (n.natAbs : Int) = n by omega]; omega
    rw [e]
    rw [e] at hm0 hm1
    go_enter Try.func16, Try.ntmps16
    go_wp2
    go_ret
    exact ⟨rfl, rfl⟩
  · have e : x % n = x.tmod n := by
      have := Int.tmod_eq_emod (a := x) (b := n)
      rw [this]
      split
      · omega
      · rename_i h
        rw [this, if_neg h, show (n.natAbs : Int) = n by omega] at hneg
        omega
    rw [e]
    rw [e] at hm0 hm1
    go_enter Try.func16, Try.ntmps16
    go_wp2
    go_ret
    exact ⟨rfl, rfl⟩

set_option maxRecDepth 100000 in
set_option maxHeartbeats 1000000 in
theorem TextLines_walk (s : ByteArray) (a : Int) (w : World) (hz : s.size ≤ 140737488351232) (_wl : (Lit.int .i64 a).wf = true) :
    Calls Try.prog 10 #[.string s, .int .i64 a] w fun e w' => e = .returned (.bool true) ∧ Below w.heap.size w w' := by
  have hm0 := Int.emod_nonneg a (show (s.size : Int) + 1 ≠ 0 by omega)
  have hm1 := Int.emod_lt_of_pos a (show 0 < (s.size : Int) + 1 by omega)
  obtain ⟨k, hkk⟩ : ∃ k : Nat, (k : Int) = a % ((s.size : Int) + 1) := ⟨(a % ((s.size : Int) + 1)).toNat, by omega⟩
  have hk : k ≤ s.size := by omega
  have hpick := fun W => Pick_at a ((s.size : Int) + 1) W (by omega) (by omega)
  have hwhere := fun W => Where_yes s k W hz hk
  rw [← hkk] at hpick
  have hc1 : 1 ≤ colN s (beginN s k) k := by unfold colN; omega
  have hc2 := colN_le s (beginN s k) k
  have hl1 := line_end s k
  have hl2 := line_begin s k
  have hE := endsN_le s
  obtain ⟨C, hC⟩ : ∃ C, C = colN s (beginN s k) k := ⟨_, rfl⟩
  simp only [← hC] at hwhere hc1 hc2 hl1 hl2
  have HP := hide_ hpick
  have HW := hide_ hwhere
  have HL1 := hide_ hl1
  have HL2 := hide_ hl2
  have HE := hide_ hE
  clear hpick hwhere hl1 hl2 hkk hC hm0 hm1 hE
  have HEk := HE.out k
  go_enter Try.func10, Try.ntmps10
  go_wp2_with (go_at_call 16; refine (HP.out _).mono ?_; rintro e w' ⟨rfl, rfl⟩)
  go_wp2_with (go_at_call 29; refine (HW.out _).mono ?_)
  rintro e w1 ⟨rfl, hb1⟩
  go_wp2
  go_loopw [8, 9] (fun n i wr => ∃ j : Nat, j ≤ k ∧ i = .int .i64 j ∧ n = .int .i64 (endsN s j : Nat) ∧ wr = w1) (fun _ i _ => k - (intOf i).toNat)
  case atStart => exact ⟨0, Nat.zero_le _, rfl, rfl, rfl⟩
  case round =>
    obtain ⟨j, hj, rfl, rfl, rfl⟩ := hrel
    have hjE := HE.out j
    by_cases hlt : j < k
    · have hbt := get_bt s
      have hbe := bt_eq s j (by omega)
      have hst : endsN s (j + 1) = endsN s j + (if bn s j = 10 then 1 else 0) := rfl
      obtain ⟨D, hD⟩ : ∃ D, D = endsN s j := ⟨_, rfl⟩
      rw [← hD] at hst hjE ⊢
      by_cases hten : bn s j = 10
      · have d1 : (bt s j == 10) = true := by rw [beq_iff_eq]; omega
        rw [if_pos hten] at hst
        have HST := hide_ hst
        clear hst hten hbe hD
        go_wp2
        go_roundw
        case rel => exact ⟨j + 1, by omega, by go_num, by rw [HST.out]; go_num, by trivial⟩
        case measure => simp [intOf]; omega
      · have d1 : (bt s j == 10) = false := by rw [beq_eq_false_iff_ne]; omega
        rw [if_neg hten] at hst
        have HST := hide_ hst
        clear hst hten hbe hD
        go_wp2
        go_roundw
        case rel => exact ⟨j + 1, by omega, by go_num, by rw [HST.out]; rfl, by trivial⟩
        case measure => simp [intOf]; omega
    · obtain rfl : j = k := by omega
      obtain ⟨D, hD⟩ : ∃ D, D = endsN s j := ⟨_, rfl⟩
      rw [← hD] at hjE HEk ⊢
      clear hD
      have g1 : ((1 : Int) + (D : Int) != (D : Int) + 1) = false := by simp; omega
      have g2 : decide ((C : Int) < 1) = false := by simp; omega
      have g3 : decide ((j : Int) + 1 < (C : Int)) = false := by simp; omega
      by_cases h0 : j = 0
      · subst h0
        have hc := HL1.out (.inl rfl)
        subst hc
        go_wp2
        go_ret
        exact ⟨by simp, hb1⟩
      · have hbt := get_bt s
        have hbe := bt_eq s (j - 1) (by omega)
        have e0 : ((j : Int) == 0) = false := by rw [beq_eq_false_iff_ne]; omega
        have e1 : ((j : Int) - 1).toNat = j - 1 := by omega
        by_cases hten : bn s (j - 1) = 10
        · have d1 : (bt s (j - 1) == 10) = true := by rw [beq_iff_eq]; omega
          have hc := HL1.out (.inr hten)
          subst hc
          clear hten hbe
          go_wp2
          go_ret
          exact ⟨by simp, hb1⟩
        · have d1 : (bt s (j - 1) == 10) = false := by rw [beq_eq_false_iff_ne]; omega
          have hc := HL2.out (by omega) hk hten
          have d2 : decide ((1 : Int) < (C : Int)) = true := by simp; omega
          clear hten hbe
          go_wp2
          go_ret
          exact ⟨by simp, hb1⟩
end Go.Proofs.Ytohpnalklbjkoaa
