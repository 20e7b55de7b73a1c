/-
  The walks of text.Rune and of the document's Rune; the statement TextRune. (Printed by wip/tools/gen_rune.py.)
-/
import Derived.Test.YtmbofpeedjlfhaaDoorSay
import Derived.Test.YtmbofpeedjlfhaaDoorThing
namespace Go.Proofs.YtmbofpeedjlfhaaDoor
set_option maxRecDepth 100000
open Go.RowKit Go.PlainAid
set_option linter.unusedVariables false

theorem cutN_le4 (s : ByteArray) (i : Nat) : cutN s i ≤ 4 := by
  unfold cutN
  rw [Lib.decode_at]
  unfold Lib.decodeN
  repeat' split
  all_goals simp
theorem escN_ok (s : ByteArray) (i : Nat) (c : Int) (b : Bool) (k : Nat) (h : escN s i = some (c, b, k)) : 0 ≤ c ∧ (b = true → c < 256) ∧ (b = false → isRune c.toNat) ∧ 2 ≤ k ∧ k ≤ 6 := by
  have hb := bn_lt s (i + 1)
  have h2 := hexW_bd s (i + 2) 2
  have h4 := hexW_bd s (i + 2) 4
  have e16 : (16 : Int) ^ 2 = 256 := by decide
  have e64 : (16 : Int) ^ 4 = 65536 := by decide
  rw [e16] at h2
  rw [e64] at h4
  unfold escN at h
  unfold isRune
  repeat' split at h
  all_goals
    simp only [Option.some.injEq, Prod.mk.injEq, reduceCtorEq] at h
  all_goals
    obtain ⟨rfl, rfl, rfl⟩ := h
    refine ⟨by omega, fun e => ?_, fun e => ?_, by omega, by omega⟩ <;> first | omega | simp at e
theorem sayN_k (s : ByteArray) (i : Nat) : (sayN s i).2.2.1 ≤ 6 := by
  unfold sayN
  split
  · split
    · simp
    · rename_i h; exact (escN_ok s i _ _ _ h).2.2.2.2
  · split
    · simp
    · split
      · simp
      · have := cutN_le4 s i; simp; omega
/-- what a literal in apostrophes stands for -/
def runeN (s : ByteArray) : Int × Int × Int :=
  if s.size = 0 then (0, 0, 11) else if bn s 0 ≠ 39 then (0, 0, 11) else if s.size = 1 then (0, 1, 11) else if bn s 1 = 39 then (0, 1, 10)
  else if (sayN s 1).2.2.2 ≠ 0 then (0, 1, (sayN s 1).2.2.2)
  else if s.size ≤ 1 + (sayN s 1).2.2.1 then (0, 1 + (sayN s 1).2.2.1, 11)
  else if bn s (1 + (sayN s 1).2.2.1) ≠ 39 then (0, 1 + (sayN s 1).2.2.1, 11)
  else if 2 + (sayN s 1).2.2.1 < s.size then (0, 2 + (sayN s 1).2.2.1, 10)
  else ((sayN s 1).1, 0, 0)
abbrev RuneIs (x : Int × Int × Int) (w : World) (e : Ending) (w' : World) : Prop := e = .returned (.tuple #[.int .i32 x.1, .int .i64 x.2.1, .int .i64 x.2.2]) ∧ Below w.heap.size w w'
theorem not_empty (s : ByteArray) (h : 0 < s.size) : s.toList.isEmpty = false := by
  rw [ByteArray.toList_eq]
  have h' : 0 < s.data.toList.length := by simpa using h
  cases e : s.data.toList with
  | nil => rw [e] at h'; exact absurd h' (by decide)
  | cons x l => rfl
theorem is_empty (s : ByteArray) (h : s.size = 0) : s = ByteArray.mk #[] := by
  obtain ⟨d⟩ := s
  have hd : d.size = 0 := h
  rw [Array.eq_empty_of_size_eq_zero hd]
/-- the document's thing, at every place that is no end -/
theorem thing_any (s : ByteArray) (i : Nat) (q : Int) (w : World) (hz : s.size ≤ 1152921504606846976) (hi : i < s.size) (h : bt s i ≠ q) :
    Calls Tryd.prog 105 #[.string s, .int .i64 i, .int .u8 q] w fun e w' => ∃ T, ((sayN s i).2.2.2 = 0 → IsText T (sayB s i)) ∧ ThingIs T (sayN s i).1 ((i + (sayN s i).2.2.1 : Nat) : Int) false (sayN s i).2.2.2 w e w' := by
  have hb := bt_eq s i hi
  unfold sayB
  by_cases h92 : bn s i = 92
  · refine (thing_esc s i q w hz hi h (by omega)).mono fun e w' ho => ?_
    rcases ho with ⟨hn, ho⟩ | ⟨c, b, k, hn, ho⟩
    · have e0 : sayN s i = (0, false, 0, 12) := by unfold sayN; rw [if_pos h92, hn]
      rw [e0]
      exact ⟨_, (fun e => by cases e), ho⟩
    · have e0 : sayN s i = (c, b, k, 0) := by unfold sayN; rw [if_pos h92, hn]
      rw [e0]
      refine ⟨_, fun _ => textOf_isText _ ?_, ho⟩
      obtain ⟨g0, g1, g2, _⟩ := escN_ok s i c b k hn
      intro x hx
      unfold escB at hx
      cases b with
      | true =>
        have := g1 rfl
        simp only [if_true, List.mem_singleton] at hx
        omega
      | false => exact codeL_lt _ (g2 rfl) x (by simpa using hx)
  by_cases hc : bn s i < 32 ∨ bn s i = 127
  · have e0 : sayN s i = (0, false, 0, 10) := by unfold sayN; rw [if_neg h92, if_pos hc]
    rw [e0]
    refine (thing_ctl s i q w hi h (by omega) (by omega)).mono fun e w' ho => ⟨_, (fun e => by cases e), ho⟩
  by_cases hl : lost s i
  · have e0 : sayN s i = (0, false, 0, 13) := by unfold sayN; rw [if_neg h92, if_neg hc, if_pos hl]
    rw [e0]
    refine (thing_lost s i q w hz hi h (by omega) (by omega) (by omega) hl).mono fun e w' ho => ⟨_, (fun e => by cases e), ho⟩
  · have e0 : sayN s i = (((Utf8.decode s i).1 : Int), false, cutN s i, 0) := by unfold sayN; rw [if_neg h92, if_neg hc, if_neg hl]
    rw [e0]
    obtain ⟨_, hm, hcn⟩ := cut_code s i hi hl
    refine (thing_rune s i q w hz hi h (by omega) (by omega) (by omega) hl).mono fun e w' ho => ?_
    unfold cutR at ho
    rw [if_neg hl] at ho
    refine ⟨_, fun _ => ?_, ho⟩
    have := matches_text s i _ hm
    rw [← hcn] at this
    simpa [escB] using this

theorem trune_0 (w : World) : Calls Tryd.prog 25 #[.string ⟨#[]⟩] w (RuneIs (0, 0, 11) w) := by
  go_enter Tryd.func25, Tryd.ntmps25
  go_wp2
  go_ret3
  exact ⟨rfl, Below.refl _ _⟩
set_option maxHeartbeats 1000000 in
theorem trune_1 (s : ByteArray) (w : World) (h0 : 0 < s.size) (h1 : bt s 0 ≠ 39) :
    Calls Tryd.prog 25 #[.string s] w (RuneIs (0, 0, 11) w) := by
  have hbt := get_bt s
  have hne := not_empty s (by omega)
  have h2 : (bt s 0 != 39) = true := bne_iff_ne.2 h1
  clear h1
  go_enter Tryd.func25, Tryd.ntmps25
  go_wp2
  go_ret3
  exact ⟨rfl, Below.refl _ _⟩
set_option maxHeartbeats 1000000 in
theorem trune_2 (s : ByteArray) (w : World) (h0 : s.size = 1) (h1 : bt s 0 = 39) :
    Calls Tryd.prog 25 #[.string s] w (RuneIs (0, 1, 11) w) := by
  have hbt := get_bt s
  have hne := not_empty s (by omega)
  go_enter Tryd.func25, Tryd.ntmps25
  go_wp2
  go_ret3
  exact ⟨rfl, Below.refl _ _⟩
set_option maxHeartbeats 1000000 in
theorem trune_3 (s : ByteArray) (w : World) (h0 : 1 < s.size) (h1 : bt s 0 = 39) (h2 : bt s 1 = 39) :
    Calls Tryd.prog 25 #[.string s] w (RuneIs (0, 1, 10) w) := by
  have hbt := get_bt s
  have hne := not_empty s (by omega)
  go_enter Tryd.func25, Tryd.ntmps25
  go_wp2
  go_ret3
  exact ⟨rfl, Below.refl _ _⟩
set_option maxHeartbeats 1000000 in
theorem trune_4 (s : ByteArray) (w : World) (hz : s.size ≤ 1152921504606846976) (h0 : 1 < s.size) (h1 : bt s 0 = 39) (h2 : bt s 1 ≠ 39) (c : Int) (b : Bool) (k : Nat) (er : Int) (hN : sayN s 1 = (c, b, k, er)) (hk : k ≤ 6) (he : er ≠ 0) :
    Calls Tryd.prog 25 #[.string s] w (RuneIs (0, 1, er) w) := by
  have hbt := get_bt s
  have hne := not_empty s (by omega)
  have e1 : ((s.size : Int) == 1) = false := by rw [beq_eq_false_iff_ne]; omega
  have x2 : (bt s 1 == 39) = false := by rw [beq_eq_false_iff_ne]; exact h2
  have hcall : ∀ W, Calls Tryd.prog 42 #[.string s, .int .i64 1] W (SayOut c b k er W) := fun W => by
    have := say_any s 1 W (by omega)
    rw [hN] at this
    exact this
  have HCALL := hide_ hcall
  clear hcall hN h2
  have x3 : (er != 0) = true := bne_iff_ne.2 he
  clear he
  go_enter Tryd.func25, Tryd.ntmps25
  go_wp2_with (go_at_call 42; refine (HCALL.out _).mono ?_; rintro e w' ⟨rfl, hbel⟩)
  go_ret3
  exact ⟨rfl, hbel.alloc hbel.size _⟩
set_option maxHeartbeats 1000000 in
theorem trune_5 (s : ByteArray) (w : World) (hz : s.size ≤ 1152921504606846976) (h0 : 1 < s.size) (h1 : bt s 0 = 39) (h2 : bt s 1 ≠ 39) (c : Int) (b : Bool) (k : Nat) (er : Int) (hN : sayN s 1 = (c, b, k, er)) (hk : k ≤ 6) (he : er = 0) (h5 : s.size ≤ 1 + k) :
    Calls Tryd.prog 25 #[.string s] w (RuneIs (0, 1 + (k : Int), 11) w) := by
  have hbt := get_bt s
  subst he
  have hne := not_empty s (by omega)
  have e1 : ((s.size : Int) == 1) = false := by rw [beq_eq_false_iff_ne]; omega
  have x2 : (bt s 1 == 39) = false := by rw [beq_eq_false_iff_ne]; exact h2
  have hcall : ∀ W, Calls Tryd.prog 42 #[.string s, .int .i64 1] W (SayOut c b k 0 W) := fun W => by
    have := say_any s 1 W (by omega)
    rw [hN] at this
    exact this
  have HCALL := hide_ hcall
  clear hcall hN h2

  go_enter Tryd.func25, Tryd.ntmps25
  go_wp2_with (go_at_call 42; refine (HCALL.out _).mono ?_; rintro e w' ⟨rfl, hbel⟩)
  go_ret3
  exact ⟨rfl, hbel.alloc hbel.size _⟩
set_option maxHeartbeats 1000000 in
theorem trune_6 (s : ByteArray) (w : World) (hz : s.size ≤ 1152921504606846976) (h0 : 1 < s.size) (h1 : bt s 0 = 39) (h2 : bt s 1 ≠ 39) (c : Int) (b : Bool) (k : Nat) (er : Int) (hN : sayN s 1 = (c, b, k, er)) (hk : k ≤ 6) (he : er = 0) (h5 : 1 + k < s.size) (h6 : bt s (1 + k) ≠ 39) :
    Calls Tryd.prog 25 #[.string s] w (RuneIs (0, 1 + (k : Int), 11) w) := by
  have hbt := get_bt s
  subst he
  have hne := not_empty s (by omega)
  have e1 : ((s.size : Int) == 1) = false := by rw [beq_eq_false_iff_ne]; omega
  have x2 : (bt s 1 == 39) = false := by rw [beq_eq_false_iff_ne]; exact h2
  have hcall : ∀ W, Calls Tryd.prog 42 #[.string s, .int .i64 1] W (SayOut c b k 0 W) := fun W => by
    have := say_any s 1 W (by omega)
    rw [hN] at this
    exact this
  have HCALL := hide_ hcall
  clear hcall hN h2
  have y1 : ((1 : Int) + (k : Int)).toNat = 1 + k := by omega
  have y2 : (bt s (1 + k) != 39) = true := bne_iff_ne.2 h6
  clear h6
  go_enter Tryd.func25, Tryd.ntmps25
  go_wp2_with (go_at_call 42; refine (HCALL.out _).mono ?_; rintro e w' ⟨rfl, hbel⟩)
  go_ret3
  exact ⟨rfl, hbel.alloc hbel.size _⟩
set_option maxHeartbeats 1000000 in
theorem trune_7 (s : ByteArray) (w : World) (hz : s.size ≤ 1152921504606846976) (h0 : 1 < s.size) (h1 : bt s 0 = 39) (h2 : bt s 1 ≠ 39) (c : Int) (b : Bool) (k : Nat) (er : Int) (hN : sayN s 1 = (c, b, k, er)) (hk : k ≤ 6) (he : er = 0) (h5 : 2 + k < s.size) (h6 : bt s (1 + k) = 39) :
    Calls Tryd.prog 25 #[.string s] w (RuneIs (0, 1 + (k : Int) + 1, 10) w) := by
  have hbt := get_bt s
  subst he
  have hne := not_empty s (by omega)
  have e1 : ((s.size : Int) == 1) = false := by rw [beq_eq_false_iff_ne]; omega
  have x2 : (bt s 1 == 39) = false := by rw [beq_eq_false_iff_ne]; exact h2
  have hcall : ∀ W, Calls Tryd.prog 42 #[.string s, .int .i64 1] W (SayOut c b k 0 W) := fun W => by
    have := say_any s 1 W (by omega)
    rw [hN] at this
    exact this
  have HCALL := hide_ hcall
  clear hcall hN h2
  have y1 : ((1 : Int) + (k : Int)).toNat = 1 + k := by omega
  go_enter Tryd.func25, Tryd.ntmps25
  go_wp2_with (go_at_call 42; refine (HCALL.out _).mono ?_; rintro e w' ⟨rfl, hbel⟩)
  go_ret3
  exact ⟨rfl, hbel.alloc hbel.size _⟩
set_option maxHeartbeats 1000000 in
theorem trune_8 (s : ByteArray) (w : World) (hz : s.size ≤ 1152921504606846976) (h0 : 1 < s.size) (h1 : bt s 0 = 39) (h2 : bt s 1 ≠ 39) (c : Int) (b : Bool) (k : Nat) (er : Int) (hN : sayN s 1 = (c, b, k, er)) (hk : k ≤ 6) (he : er = 0) (h5 : 2 + k = s.size) (h6 : bt s (1 + k) = 39) :
    Calls Tryd.prog 25 #[.string s] w (RuneIs (c, 0, 0) w) := by
  have hbt := get_bt s
  subst he
  have hne := not_empty s (by omega)
  have e1 : ((s.size : Int) == 1) = false := by rw [beq_eq_false_iff_ne]; omega
  have x2 : (bt s 1 == 39) = false := by rw [beq_eq_false_iff_ne]; exact h2
  have hcall : ∀ W, Calls Tryd.prog 42 #[.string s, .int .i64 1] W (SayOut c b k 0 W) := fun W => by
    have := say_any s 1 W (by omega)
    rw [hN] at this
    exact this
  have HCALL := hide_ hcall
  clear hcall hN h2
  have y1 : ((1 : Int) + (k : Int)).toNat = 1 + k := by omega
  go_enter Tryd.func25, Tryd.ntmps25
  go_wp2_with (go_at_call 42; refine (HCALL.out _).mono ?_; rintro e w' ⟨rfl, hbel⟩)
  go_ret3
  exact ⟨rfl, hbel.alloc hbel.size _⟩
theorem trune_any (s : ByteArray) (w : World) (hz : s.size ≤ 1152921504606846976) :
    Calls Tryd.prog 25 #[.string s] w (RuneIs (runeN s) w) := by
  unfold runeN
  by_cases h0 : s.size = 0
  · obtain rfl := is_empty s h0
    rw [if_pos h0]
    exact trune_0 w
  rw [if_neg h0]
  have hb0 := bt_eq s 0 (by omega)
  by_cases h1 : bn s 0 ≠ 39
  · rw [if_pos h1]
    exact trune_1 s w (by omega) (by omega)
  rw [if_neg h1]
  by_cases h2 : s.size = 1
  · rw [if_pos h2]
    exact trune_2 s w h2 (by omega)
  rw [if_neg h2]
  have hb1 := bt_eq s 1 (by omega)
  by_cases h3 : bn s 1 = 39
  · rw [if_pos h3]
    exact trune_3 s w (by omega) (by omega) (by omega)
  rw [if_neg h3]
  have hk := sayN_k s 1
  obtain ⟨⟨c, b, k, er⟩, hN⟩ : ∃ x, sayN s 1 = x := ⟨_, rfl⟩
  rw [hN] at hk ⊢
  simp only at hk ⊢
  by_cases h4 : er ≠ 0
  · rw [if_pos h4]
    exact trune_4 s w hz (by omega) (by omega) (by omega) c b k er hN hk h4
  rw [if_neg h4]
  by_cases h5 : s.size ≤ 1 + k
  · rw [if_pos h5]
    exact trune_5 s w hz (by omega) (by omega) (by omega) c b k er hN hk (by omega) h5
  rw [if_neg h5]
  have hb2 := bt_eq s (1 + k) (by omega)
  by_cases h6 : bn s (1 + k) ≠ 39
  · rw [if_pos h6]
    exact trune_6 s w hz (by omega) (by omega) (by omega) c b k er hN hk (by omega) (by omega) (by omega)
  rw [if_neg h6]
  by_cases h7 : 2 + k < s.size
  · rw [if_pos h7]
    have := trune_7 s w hz (by omega) (by omega) (by omega) c b k er hN hk (by omega) h7 (by omega)
    rw [show (1 : Int) + (k : Int) + 1 = 2 + (k : Int) by omega] at this
    exact this
  · rw [if_neg h7]
    exact trune_8 s w hz (by omega) (by omega) (by omega) c b k er hN hk (by omega) (by omega) (by omega)

theorem rrune_0 (w : World) : Calls Tryd.prog 97 #[.string ⟨#[]⟩] w (RuneIs (0, 0, 11) w) := by
  go_enter Tryd.func97, Tryd.ntmps97
  go_wp2
  go_ret3
  exact ⟨rfl, Below.refl _ _⟩
set_option maxHeartbeats 1000000 in
theorem rrune_1 (s : ByteArray) (w : World) (h0 : 0 < s.size) (h1 : bt s 0 ≠ 39) :
    Calls Tryd.prog 97 #[.string s] w (RuneIs (0, 0, 11) w) := by
  have hbt := get_bt s
  have e0 : ((s.size : Int) == 0) = false := by rw [beq_eq_false_iff_ne]; omega
  have h2 : (bt s 0 != 39) = true := bne_iff_ne.2 h1
  clear h1
  go_enter Tryd.func97, Tryd.ntmps97
  go_wp2
  go_ret3
  exact ⟨rfl, Below.refl _ _⟩
set_option maxHeartbeats 1000000 in
theorem rrune_2 (s : ByteArray) (w : World) (h0 : s.size = 1) (h1 : bt s 0 = 39) :
    Calls Tryd.prog 97 #[.string s] w (RuneIs (0, 1, 11) w) := by
  have hbt := get_bt s
  have e0 : ((s.size : Int) == 0) = false := by rw [beq_eq_false_iff_ne]; omega
  go_enter Tryd.func97, Tryd.ntmps97
  go_wp2
  go_ret3
  exact ⟨rfl, Below.refl _ _⟩
set_option maxHeartbeats 1000000 in
theorem rrune_3 (s : ByteArray) (w : World) (hz : s.size ≤ 1152921504606846976) (h0 : 1 < s.size) (h1 : bt s 0 = 39) (h2 : bt s 1 = 39) :
    Calls Tryd.prog 97 #[.string s] w (RuneIs (0, 1, 10) w) := by
  have hbt := get_bt s
  have e0 : ((s.size : Int) == 0) = false := by rw [beq_eq_false_iff_ne]; omega
  have e1 : ((s.size : Int) == 1) = false := by rw [beq_eq_false_iff_ne]; omega
  have hcall := fun W => thing_shut s 1 39 W hz (by omega) h2
  have HCALL := hide_ hcall
  clear hcall h2
  go_enter Tryd.func97, Tryd.ntmps97
  go_wp2_with (go_at_call 105; refine (HCALL.out _).mono ?_; rintro e w' ⟨rfl, hbel⟩)
  go_ret3
  exact ⟨rfl, hbel⟩
set_option maxHeartbeats 1000000 in
theorem rrune_4 (s : ByteArray) (w : World) (hz : s.size ≤ 1152921504606846976) (h0 : 1 < s.size) (h1 : bt s 0 = 39) (h2 : bt s 1 ≠ 39) (c : Int) (b : Bool) (k : Nat) (er : Int) (hN : sayN s 1 = (c, b, k, er)) (hk : k ≤ 6) (he : er ≠ 0) :
    Calls Tryd.prog 97 #[.string s] w (RuneIs (0, 1, er) w) := by
  have hbt := get_bt s
  have e0 : ((s.size : Int) == 0) = false := by rw [beq_eq_false_iff_ne]; omega
  have e1 : ((s.size : Int) == 1) = false := by rw [beq_eq_false_iff_ne]; omega
  have hcall : ∀ W, Calls Tryd.prog 105 #[.string s, .int .i64 1, .int .u8 39] W (fun e w' => ∃ T, ThingIs T c (1 + (k : Int)) false er W e w') := fun W => by
    refine (thing_any s 1 39 W hz (by omega) h2).mono fun e w' ho => ?_
    obtain ⟨T, _, ho⟩ := ho
    rw [hN] at ho
    have e1 : ((1 + k : Nat) : Int) = 1 + (k : Int) := by omega
    simp only [e1] at ho
    exact ⟨T, ho⟩
  have HCALL := hide_ hcall
  clear hcall hN h2
  have x3 : (er != 0) = true := bne_iff_ne.2 he
  clear he
  go_enter Tryd.func97, Tryd.ntmps97
  go_wp2_with (go_at_call 105; refine (HCALL.out _).mono ?_; rintro e w' ⟨T, rfl, hbel⟩)
  go_ret3
  exact ⟨rfl, hbel⟩
set_option maxHeartbeats 1000000 in
theorem rrune_5 (s : ByteArray) (w : World) (hz : s.size ≤ 1152921504606846976) (h0 : 1 < s.size) (h1 : bt s 0 = 39) (h2 : bt s 1 ≠ 39) (c : Int) (b : Bool) (k : Nat) (er : Int) (hN : sayN s 1 = (c, b, k, er)) (hk : k ≤ 6) (he : er = 0) (h5 : s.size ≤ 1 + k) :
    Calls Tryd.prog 97 #[.string s] w (RuneIs (0, 1 + (k : Int), 11) w) := by
  have hbt := get_bt s
  subst he
  have e0 : ((s.size : Int) == 0) = false := by rw [beq_eq_false_iff_ne]; omega
  have e1 : ((s.size : Int) == 1) = false := by rw [beq_eq_false_iff_ne]; omega
  have hcall : ∀ W, Calls Tryd.prog 105 #[.string s, .int .i64 1, .int .u8 39] W (fun e w' => ∃ T, ThingIs T c (1 + (k : Int)) false 0 W e w') := fun W => by
    refine (thing_any s 1 39 W hz (by omega) h2).mono fun e w' ho => ?_
    obtain ⟨T, _, ho⟩ := ho
    rw [hN] at ho
    have e1 : ((1 + k : Nat) : Int) = 1 + (k : Int) := by omega
    simp only [e1] at ho
    exact ⟨T, ho⟩
  have HCALL := hide_ hcall
  clear hcall hN h2

  go_enter Tryd.func97, Tryd.ntmps97
  go_wp2_with (go_at_call 105; refine (HCALL.out _).mono ?_; rintro e w' ⟨T, rfl, hbel⟩)
  go_ret3
  exact ⟨rfl, hbel⟩
set_option maxHeartbeats 1000000 in
theorem rrune_6 (s : ByteArray) (w : World) (hz : s.size ≤ 1152921504606846976) (h0 : 1 < s.size) (h1 : bt s 0 = 39) (h2 : bt s 1 ≠ 39) (c : Int) (b : Bool) (k : Nat) (er : Int) (hN : sayN s 1 = (c, b, k, er)) (hk : k ≤ 6) (he : er = 0) (h5 : 1 + k < s.size) (h6 : bt s (1 + k) ≠ 39) :
    Calls Tryd.prog 97 #[.string s] w (RuneIs (0, 1 + (k : Int), 11) w) := by
  have hbt := get_bt s
  subst he
  have e0 : ((s.size : Int) == 0) = false := by rw [beq_eq_false_iff_ne]; omega
  have e1 : ((s.size : Int) == 1) = false := by rw [beq_eq_false_iff_ne]; omega
  have hcall : ∀ W, Calls Tryd.prog 105 #[.string s, .int .i64 1, .int .u8 39] W (fun e w' => ∃ T, ThingIs T c (1 + (k : Int)) false 0 W e w') := fun W => by
    refine (thing_any s 1 39 W hz (by omega) h2).mono fun e w' ho => ?_
    obtain ⟨T, _, ho⟩ := ho
    rw [hN] at ho
    have e1 : ((1 + k : Nat) : Int) = 1 + (k : Int) := by omega
    simp only [e1] at ho
    exact ⟨T, ho⟩
  have HCALL := hide_ hcall
  clear hcall hN h2
  have y1 : ((1 : Int) + (k : Int)).toNat = 1 + k := by omega
  have y2 : (bt s (1 + k) != 39) = true := bne_iff_ne.2 h6
  clear h6
  go_enter Tryd.func97, Tryd.ntmps97
  go_wp2_with (go_at_call 105; refine (HCALL.out _).mono ?_; rintro e w' ⟨T, rfl, hbel⟩)
  go_ret3
  exact ⟨rfl, hbel⟩
set_option maxHeartbeats 1000000 in
theorem rrune_7 (s : ByteArray) (w : World) (hz : s.size ≤ 1152921504606846976) (h0 : 1 < s.size) (h1 : bt s 0 = 39) (h2 : bt s 1 ≠ 39) (c : Int) (b : Bool) (k : Nat) (er : Int) (hN : sayN s 1 = (c, b, k, er)) (hk : k ≤ 6) (he : er = 0) (h5 : 2 + k < s.size) (h6 : bt s (1 + k) = 39) :
    Calls Tryd.prog 97 #[.string s] w (RuneIs (0, 1 + (k : Int) + 1, 10) w) := by
  have hbt := get_bt s
  subst he
  have e0 : ((s.size : Int) == 0) = false := by rw [beq_eq_false_iff_ne]; omega
  have e1 : ((s.size : Int) == 1) = false := by rw [beq_eq_false_iff_ne]; omega
  have hcall : ∀ W, Calls Tryd.prog 105 #[.string s, .int .i64 1, .int .u8 39] W (fun e w' => ∃ T, ThingIs T c (1 + (k : Int)) false 0 W e w') := fun W => by
    refine (thing_any s 1 39 W hz (by omega) h2).mono fun e w' ho => ?_
    obtain ⟨T, _, ho⟩ := ho
    rw [hN] at ho
    have e1 : ((1 + k : Nat) : Int) = 1 + (k : Int) := by omega
    simp only [e1] at ho
    exact ⟨T, ho⟩
  have HCALL := hide_ hcall
  clear hcall hN h2
  have y1 : ((1 : Int) + (k : Int)).toNat = 1 + k := by omega
  go_enter Tryd.func97, Tryd.ntmps97
  go_wp2_with (go_at_call 105; refine (HCALL.out _).mono ?_; rintro e w' ⟨T, rfl, hbel⟩)
  go_ret3
  exact ⟨rfl, hbel⟩
set_option maxHeartbeats 1000000 in
theorem rrune_8 (s : ByteArray) (w : World) (hz : s.size ≤ 1152921504606846976) (h0 : 1 < s.size) (h1 : bt s 0 = 39) (h2 : bt s 1 ≠ 39) (c : Int) (b : Bool) (k : Nat) (er : Int) (hN : sayN s 1 = (c, b, k, er)) (hk : k ≤ 6) (he : er = 0) (h5 : 2 + k = s.size) (h6 : bt s (1 + k) = 39) :
    Calls Tryd.prog 97 #[.string s] w (RuneIs (c, 0, 0) w) := by
  have hbt := get_bt s
  subst he
  have e0 : ((s.size : Int) == 0) = false := by rw [beq_eq_false_iff_ne]; omega
  have e1 : ((s.size : Int) == 1) = false := by rw [beq_eq_false_iff_ne]; omega
  have hcall : ∀ W, Calls Tryd.prog 105 #[.string s, .int .i64 1, .int .u8 39] W (fun e w' => ∃ T, ThingIs T c (1 + (k : Int)) false 0 W e w') := fun W => by
    refine (thing_any s 1 39 W hz (by omega) h2).mono fun e w' ho => ?_
    obtain ⟨T, _, ho⟩ := ho
    rw [hN] at ho
    have e1 : ((1 + k : Nat) : Int) = 1 + (k : Int) := by omega
    simp only [e1] at ho
    exact ⟨T, ho⟩
  have HCALL := hide_ hcall
  clear hcall hN h2
  have y1 : ((1 : Int) + (k : Int)).toNat = 1 + k := by omega
  go_enter Tryd.func97, Tryd.ntmps97
  go_wp2_with (go_at_call 105; refine (HCALL.out _).mono ?_; rintro e w' ⟨T, rfl, hbel⟩)
  go_ret3
  exact ⟨rfl, hbel⟩
theorem rrune_any (s : ByteArray) (w : World) (hz : s.size ≤ 1152921504606846976) :
    Calls Tryd.prog 97 #[.string s] w (RuneIs (runeN s) w) := by
  unfold runeN
  by_cases h0 : s.size = 0
  · obtain rfl := is_empty s h0
    rw [if_pos h0]
    exact rrune_0 w
  rw [if_neg h0]
  have hb0 := bt_eq s 0 (by omega)
  by_cases h1 : bn s 0 ≠ 39
  · rw [if_pos h1]
    exact rrune_1 s w (by omega) (by omega)
  rw [if_neg h1]
  by_cases h2 : s.size = 1
  · rw [if_pos h2]
    exact rrune_2 s w h2 (by omega)
  rw [if_neg h2]
  have hb1 := bt_eq s 1 (by omega)
  by_cases h3 : bn s 1 = 39
  · rw [if_pos h3]
    exact rrune_3 s w hz (by omega) (by omega) (by omega)
  rw [if_neg h3]
  have hk := sayN_k s 1
  obtain ⟨⟨c, b, k, er⟩, hN⟩ : ∃ x, sayN s 1 = x := ⟨_, rfl⟩
  rw [hN] at hk ⊢
  simp only at hk ⊢
  by_cases h4 : er ≠ 0
  · rw [if_pos h4]
    exact rrune_4 s w hz (by omega) (by omega) (by omega) c b k er hN hk h4
  rw [if_neg h4]
  by_cases h5 : s.size ≤ 1 + k
  · rw [if_pos h5]
    exact rrune_5 s w hz (by omega) (by omega) (by omega) c b k er hN hk (by omega) h5
  rw [if_neg h5]
  have hb2 := bt_eq s (1 + k) (by omega)
  by_cases h6 : bn s (1 + k) ≠ 39
  · rw [if_pos h6]
    exact rrune_6 s w hz (by omega) (by omega) (by omega) c b k er hN hk (by omega) (by omega) (by omega)
  rw [if_neg h6]
  by_cases h7 : 2 + k < s.size
  · rw [if_pos h7]
    have := rrune_7 s w hz (by omega) (by omega) (by omega) c b k er hN hk (by omega) h7 (by omega)
    rw [show (1 : Int) + (k : Int) + 1 = 2 + (k : Int) by omega] at this
    exact this
  · rw [if_neg h7]
    exact rrune_8 s w hz (by omega) (by omega) (by omega) c b k er hN hk (by omega) (by omega) (by omega)

end Go.Proofs.YtmbofpeedjlfhaaDoor
