/-
  The walk of text.escape: what a backslash at the head of a text stands for. (Printed by wip/tools/gen_esc.py.)
-/
import Derived.Test.YtmbofpeedjlfhaaDoorHex
import Derived.Test.YtmbofpeedjlfhaaDoorSayP
namespace Go.Proofs.YtmbofpeedjlfhaaDoor
set_option maxRecDepth 100000
open Go.RowKit Go.PlainAid

theorem number_bad (t : ByteArray) (n : Nat) (m : Int) (hm : (n : Int) = m) (w : World) (hn : n ≤ 4) (hx : hexW t 0 n < 0) :
    Calls Tryd.prog 90 #[.string t, .int .i64 m] w fun e w' => e = .returned (.tuple #[.int .i32 0, .bool false]) ∧ w = w' := by
  subst hm
  refine (number_any t n w hn).mono ?_
  rintro e w' ⟨⟨h, rfl⟩ | ⟨h, rfl⟩, rfl⟩
  · exact ⟨rfl, rfl⟩
  · omega
theorem number_ok (t : ByteArray) (n : Nat) (m : Int) (hm : (n : Int) = m) (w : World) (hn : n ≤ 4) (x : Int) (hx : hexW t 0 n = x) (h0 : 0 ≤ x) :
    Calls Tryd.prog 90 #[.string t, .int .i64 m] w fun e w' => e = .returned (.tuple #[.int .i32 x, .bool true]) ∧ w = w' := by
  subst hm hx
  refine (number_any t n w hn).mono ?_
  rintro e w' ⟨⟨h, rfl⟩ | ⟨h, rfl⟩, rfl⟩
  · omega
  · exact ⟨rfl, rfl⟩
/-- what escape hands back -/
def EscOut (c : Int) (b : Bool) (k : Int) (ok : Bool) (w : World) (e : Ending) (w' : World) : Prop :=
  e = .returned (.tuple #[.agg #[.int .i32 c, .bool b, .int .i64 k], .bool ok]) ∧ w.alloc (.cells #[.int .i32 c, .bool b, .int .i64 k] 79) = w'

set_option maxHeartbeats 400000 in
theorem esc_short (t : ByteArray) (w : World) (h : t.size < 2) :
    Calls Tryd.prog 68 #[.string t] w (EscOut 0 false 0 false w) := by
  have hbt := get_bt t
  unfold EscOut
  go_enter Tryd.func68, Tryd.ntmps68
  go_wp2
  refine bodyPost_ret ?_ rfl ⟨rfl, rfl⟩
  simp [results, Tryd.results68, go_sem]

set_option maxHeartbeats 400000 in
theorem esc_n (t : ByteArray) (w : World) (h : 2 ≤ t.size) (h1 : bt t 1 = 110) :
    Calls Tryd.prog 68 #[.string t] w (EscOut 10 true 2 true w) := by
  have hbt := get_bt t
  unfold EscOut
  go_enter Tryd.func68, Tryd.ntmps68
  go_wp2
  refine bodyPost_ret ?_ rfl ⟨rfl, rfl⟩
  simp [results, Tryd.results68, go_sem]

set_option maxHeartbeats 400000 in
theorem esc_t (t : ByteArray) (w : World) (h : 2 ≤ t.size) (h1 : bt t 1 = 116) :
    Calls Tryd.prog 68 #[.string t] w (EscOut 9 true 2 true w) := by
  have hbt := get_bt t
  unfold EscOut
  go_enter Tryd.func68, Tryd.ntmps68
  go_wp2
  refine bodyPost_ret ?_ rfl ⟨rfl, rfl⟩
  simp [results, Tryd.results68, go_sem]

set_option maxHeartbeats 400000 in
theorem esc_r (t : ByteArray) (w : World) (h : 2 ≤ t.size) (h1 : bt t 1 = 114) :
    Calls Tryd.prog 68 #[.string t] w (EscOut 13 true 2 true w) := by
  have hbt := get_bt t
  unfold EscOut
  go_enter Tryd.func68, Tryd.ntmps68
  go_wp2
  refine bodyPost_ret ?_ rfl ⟨rfl, rfl⟩
  simp [results, Tryd.results68, go_sem]

set_option maxHeartbeats 400000 in
theorem esc_z (t : ByteArray) (w : World) (h : 2 ≤ t.size) (h1 : bt t 1 = 48) :
    Calls Tryd.prog 68 #[.string t] w (EscOut 0 true 2 true w) := by
  have hbt := get_bt t
  unfold EscOut
  go_enter Tryd.func68, Tryd.ntmps68
  go_wp2
  refine bodyPost_ret ?_ rfl ⟨rfl, rfl⟩
  simp [results, Tryd.results68, go_sem]

set_option maxHeartbeats 400000 in
theorem esc_b (t : ByteArray) (w : World) (h : 2 ≤ t.size) (h1 : bt t 1 = 92) :
    Calls Tryd.prog 68 #[.string t] w (EscOut 92 true 2 true w) := by
  have hbt := get_bt t
  unfold EscOut
  go_enter Tryd.func68, Tryd.ntmps68
  go_wp2
  refine bodyPost_ret ?_ rfl ⟨rfl, rfl⟩
  simp [results, Tryd.results68, go_sem]

set_option maxHeartbeats 400000 in
theorem esc_q (t : ByteArray) (w : World) (h : 2 ≤ t.size) (h1 : bt t 1 = 34) :
    Calls Tryd.prog 68 #[.string t] w (EscOut 34 true 2 true w) := by
  have hbt := get_bt t
  unfold EscOut
  go_enter Tryd.func68, Tryd.ntmps68
  go_wp2
  refine bodyPost_ret ?_ rfl ⟨rfl, rfl⟩
  simp [results, Tryd.results68, go_sem]

set_option maxHeartbeats 400000 in
theorem esc_a (t : ByteArray) (w : World) (h : 2 ≤ t.size) (h1 : bt t 1 = 39) :
    Calls Tryd.prog 68 #[.string t] w (EscOut 39 true 2 true w) := by
  have hbt := get_bt t
  unfold EscOut
  go_enter Tryd.func68, Tryd.ntmps68
  go_wp2
  refine bodyPost_ret ?_ rfl ⟨rfl, rfl⟩
  simp [results, Tryd.results68, go_sem]

set_option maxHeartbeats 400000 in
theorem esc_x_no (t : ByteArray) (w : World) (h : 2 ≤ t.size) (h1 : bt t 1 = 120) (hx : hexW (t.extract 2 t.size) 0 2 < 0) :
    Calls Tryd.prog 68 #[.string t] w (EscOut 0 true 4 false w) := by
  have hbt := get_bt t
  unfold EscOut
  go_enter Tryd.func68, Tryd.ntmps68
  go_wp2_with (go_at_call 90; refine (number_bad _ 2 2 rfl _ (by omega) hx).mono ?_; rintro e w' ⟨rfl, rfl⟩)
  refine bodyPost_ret ?_ rfl ⟨rfl, rfl⟩
  simp [results, Tryd.results68, go_sem]

set_option maxHeartbeats 400000 in
theorem esc_x_ok (t : ByteArray) (w : World) (h : 2 ≤ t.size) (h1 : bt t 1 = 120) (x : Int) (hx : hexW (t.extract 2 t.size) 0 2 = x) (h0 : 0 ≤ x) :
    Calls Tryd.prog 68 #[.string t] w (EscOut x true 4 true w) := by
  have hbt := get_bt t
  have HX := hide_ hx
  clear hx
  unfold EscOut
  go_enter Tryd.func68, Tryd.ntmps68
  go_wp2_with (go_at_call 90; refine (number_ok _ 2 2 rfl _ (by omega) x HX.out h0).mono ?_; rintro e w' ⟨rfl, rfl⟩)
  refine bodyPost_ret ?_ rfl ⟨rfl, rfl⟩
  simp [results, Tryd.results68, go_sem]

set_option maxHeartbeats 400000 in
theorem esc_u_no (t : ByteArray) (w : World) (h : 2 ≤ t.size) (h1 : bt t 1 = 117) (hx : hexW (t.extract 2 t.size) 0 4 < 0) :
    Calls Tryd.prog 68 #[.string t] w (EscOut 0 false 6 false w) := by
  have hbt := get_bt t
  unfold EscOut
  go_enter Tryd.func68, Tryd.ntmps68
  go_wp2_with (go_at_call 90; refine (number_bad _ 4 4 rfl _ (by omega) hx).mono ?_; rintro e w' ⟨rfl, rfl⟩)
  refine bodyPost_ret ?_ rfl ⟨rfl, rfl⟩
  simp [results, Tryd.results68, go_sem]

set_option maxHeartbeats 400000 in
theorem esc_u_sur (t : ByteArray) (w : World) (h : 2 ≤ t.size) (h1 : bt t 1 = 117) (x : Int) (hx : hexW (t.extract 2 t.size) 0 4 = x) (h0 : 55296 ≤ x) (h2 : x ≤ 57343) :
    Calls Tryd.prog 68 #[.string t] w (EscOut x false 6 false w) := by
  have hbt := get_bt t
  have HX := hide_ hx
  clear hx
  unfold EscOut
  go_enter Tryd.func68, Tryd.ntmps68
  go_wp2_with (go_at_call 90; refine (number_ok _ 4 4 rfl _ (by omega) x HX.out (by omega)).mono ?_; rintro e w' ⟨rfl, rfl⟩)
  refine bodyPost_ret ?_ rfl ⟨rfl, rfl⟩
  simp [results, Tryd.results68, go_sem]
  exact ⟨h0, h2⟩

set_option maxHeartbeats 400000 in
theorem esc_u_lo (t : ByteArray) (w : World) (h : 2 ≤ t.size) (h1 : bt t 1 = 117) (x : Int) (hx : hexW (t.extract 2 t.size) 0 4 = x) (h0 : 0 ≤ x) (h2 : x < 55296) :
    Calls Tryd.prog 68 #[.string t] w (EscOut x false 6 true w) := by
  have hbt := get_bt t
  have HX := hide_ hx
  clear hx
  unfold EscOut
  go_enter Tryd.func68, Tryd.ntmps68
  go_wp2_with (go_at_call 90; refine (number_ok _ 4 4 rfl _ (by omega) x HX.out (by omega)).mono ?_; rintro e w' ⟨rfl, rfl⟩)
  refine bodyPost_ret ?_ rfl ⟨rfl, rfl⟩
  simp [results, Tryd.results68, go_sem]

set_option maxHeartbeats 400000 in
theorem esc_u_hi (t : ByteArray) (w : World) (h : 2 ≤ t.size) (h1 : bt t 1 = 117) (x : Int) (hx : hexW (t.extract 2 t.size) 0 4 = x) (h0 : 57343 < x) :
    Calls Tryd.prog 68 #[.string t] w (EscOut x false 6 true w) := by
  have hbt := get_bt t
  have HX := hide_ hx
  clear hx
  unfold EscOut
  go_enter Tryd.func68, Tryd.ntmps68
  go_wp2_with (go_at_call 90; refine (number_ok _ 4 4 rfl _ (by omega) x HX.out (by omega)).mono ?_; rintro e w' ⟨rfl, rfl⟩)
  refine bodyPost_ret ?_ rfl ⟨rfl, rfl⟩
  simp [results, Tryd.results68, go_sem]

set_option maxHeartbeats 400000 in
theorem esc_other (t : ByteArray) (w : World) (h : 2 ≤ t.size) (n110 : bt t 1 ≠ 110) (n116 : bt t 1 ≠ 116) (n114 : bt t 1 ≠ 114) (n48 : bt t 1 ≠ 48) (n92 : bt t 1 ≠ 92) (n34 : bt t 1 ≠ 34) (n39 : bt t 1 ≠ 39) (n120 : bt t 1 ≠ 120) (n117 : bt t 1 ≠ 117) :
    Calls Tryd.prog 68 #[.string t] w (EscOut 0 false 0 false w) := by
  have hbt := get_bt t
  unfold EscOut
  go_enter Tryd.func68, Tryd.ntmps68
  go_wp2
  refine bodyPost_ret ?_ rfl ⟨rfl, rfl⟩
  simp [results, Tryd.results68, go_sem]

/-- text.escape, at every text -/
theorem escape_any (t : ByteArray) (w : World) :
    Calls Tryd.prog 68 #[.string t] w fun e w' => ((escN t 0 = none ∧ ∃ a b c, EscOut a b c false w e w') ∨ ∃ c b, ∃ k : Nat, escN t 0 = some (c, b, k) ∧ EscOut c b k true w e w') := by
  by_cases h : t.size < 2
  · refine (esc_short t w h).mono fun e w' ho => .inl ⟨by unfold escN; rw [if_pos (by omega)], _, _, _, ho⟩
  have hb := bt_eq t 1 (by omega)
  have hw2 := hexW_ext t 2 0 2 (by omega)
  have hw4 := hexW_ext t 2 0 4 (by omega)
  simp only [Nat.add_zero] at hw2 hw4
  have e0 : escN t 0 = (if bn t 1 = 110 then (some (10, true, 2) : Option (Int × Bool × Nat))
    else if bn t 1 = 116 then some (9, true, 2)
    else if bn t 1 = 114 then some (13, true, 2)
    else if bn t 1 = 48 then some (0, true, 2)
    else if bn t 1 = 92 ∨ bn t 1 = 34 ∨ bn t 1 = 39 then some (bn t 1, true, 2)
    else if bn t 1 = 120 then (if hexW t 2 2 < 0 then none else some (hexW t 2 2, true, 4))
    else if bn t 1 = 117 then (if hexW t 2 4 < 0 ∨ (55296 ≤ hexW t 2 4 ∧ hexW t 2 4 ≤ 57343) then none else some (hexW t 2 4, false, 6))
    else none) := by unfold escN; rw [if_neg (by omega)]
  rw [e0]
  by_cases c110 : bn t 1 = 110
  · refine (esc_n t w (by omega) (by omega)).mono fun e w' ho => .inr ⟨_, _, 2, by rw [if_pos c110], ho⟩
  by_cases c116 : bn t 1 = 116
  · refine (esc_t t w (by omega) (by omega)).mono fun e w' ho => .inr ⟨_, _, 2, by rw [if_neg c110, if_pos c116], ho⟩
  by_cases c114 : bn t 1 = 114
  · refine (esc_r t w (by omega) (by omega)).mono fun e w' ho => .inr ⟨_, _, 2, by rw [if_neg c110, if_neg c116, if_pos c114], ho⟩
  by_cases c48 : bn t 1 = 48
  · refine (esc_z t w (by omega) (by omega)).mono fun e w' ho => .inr ⟨_, _, 2, by rw [if_neg c110, if_neg c116, if_neg c114, if_pos c48], ho⟩
  by_cases c92 : bn t 1 = 92
  · refine (esc_b t w (by omega) (by omega)).mono fun e w' ho => .inr ⟨_, _, 2, by rw [if_neg c110, if_neg c116, if_neg c114, if_neg c48, if_pos (by omega), c92]; rfl, ho⟩
  by_cases c34 : bn t 1 = 34
  · refine (esc_q t w (by omega) (by omega)).mono fun e w' ho => .inr ⟨_, _, 2, by rw [if_neg c110, if_neg c116, if_neg c114, if_neg c48, if_pos (by omega), c34]; rfl, ho⟩
  by_cases c39 : bn t 1 = 39
  · refine (esc_a t w (by omega) (by omega)).mono fun e w' ho => .inr ⟨_, _, 2, by rw [if_neg c110, if_neg c116, if_neg c114, if_neg c48, if_pos (by omega), c39]; rfl, ho⟩
  by_cases c120 : bn t 1 = 120
  · by_cases hx : hexW t 2 2 < 0
    · refine (esc_x_no t w (by omega) (by omega) (by omega)).mono fun e w' ho => .inl ⟨by rw [if_neg c110, if_neg c116, if_neg c114, if_neg c48, if_neg (show ¬ (bn t 1 = 92 ∨ bn t 1 = 34 ∨ bn t 1 = 39) by omega), if_pos c120, if_pos hx], _, _, _, ho⟩
    · refine (esc_x_ok t w (by omega) (by omega) _ hw2 (by omega)).mono fun e w' ho => .inr ⟨_, _, 4, by rw [if_neg c110, if_neg c116, if_neg c114, if_neg c48, if_neg (show ¬ (bn t 1 = 92 ∨ bn t 1 = 34 ∨ bn t 1 = 39) by omega), if_pos c120, if_neg hx], ho⟩
  by_cases c117 : bn t 1 = 117
  · by_cases hx : hexW t 2 4 < 0
    · refine (esc_u_no t w (by omega) (by omega) (by omega)).mono fun e w' ho => .inl ⟨by rw [if_neg c110, if_neg c116, if_neg c114, if_neg c48, if_neg (show ¬ (bn t 1 = 92 ∨ bn t 1 = 34 ∨ bn t 1 = 39) by omega), if_neg c120, if_pos c117, if_pos (.inl hx)], _, _, _, ho⟩
    by_cases hs : 55296 ≤ hexW t 2 4 ∧ hexW t 2 4 ≤ 57343
    · refine (esc_u_sur t w (by omega) (by omega) _ hw4 (by omega) (by omega)).mono fun e w' ho => .inl ⟨by rw [if_neg c110, if_neg c116, if_neg c114, if_neg c48, if_neg (show ¬ (bn t 1 = 92 ∨ bn t 1 = 34 ∨ bn t 1 = 39) by omega), if_neg c120, if_pos c117, if_pos (.inr hs)], _, _, _, ho⟩
    have hn : ¬ (hexW t 2 4 < 0 ∨ 55296 ≤ hexW t 2 4 ∧ hexW t 2 4 ≤ 57343) := by omega
    by_cases hl : hexW t 2 4 < 55296
    · refine (esc_u_lo t w (by omega) (by omega) _ hw4 (by omega) (by omega)).mono fun e w' ho => .inr ⟨_, _, 6, by rw [if_neg c110, if_neg c116, if_neg c114, if_neg c48, if_neg (show ¬ (bn t 1 = 92 ∨ bn t 1 = 34 ∨ bn t 1 = 39) by omega), if_neg c120, if_pos c117, if_neg hn], ho⟩
    · refine (esc_u_hi t w (by omega) (by omega) _ hw4 (by omega)).mono fun e w' ho => .inr ⟨_, _, 6, by rw [if_neg c110, if_neg c116, if_neg c114, if_neg c48, if_neg (show ¬ (bn t 1 = 92 ∨ bn t 1 = 34 ∨ bn t 1 = 39) by omega), if_neg c120, if_pos c117, if_neg hn], ho⟩
  refine (esc_other t w (by omega) (by omega) (by omega) (by omega) (by omega) (by omega) (by omega) (by omega) (by omega) (by omega)).mono fun e w' ho => .inl ⟨by rw [if_neg c110, if_neg c116, if_neg c114, if_neg c48, if_neg (show ¬ (bn t 1 = 92 ∨ bn t 1 = 34 ∨ bn t 1 = 39) by omega), if_neg c120, if_neg c117], _, _, _, ho⟩
end Go.Proofs.YtmbofpeedjlfhaaDoor
