/-
  The walk of the document's thing: what stands at a place of a literal.
-/
import Derived.Test.YtmbofpeedjlfhaaDoorREsc
import Derived.Test.YtmbofpeedjlfhaaDoorCutsWalk
namespace Go.Proofs.YtmbofpeedjlfhaaDoor
set_option maxRecDepth 100000
open Go.RowKit Go.PlainAid

/-- the bytes of what a literal says at a place -/
def sayB (s : ByteArray) (i : Nat) : List Nat := escB (sayN s i).1 (sayN s i).2.1
theorem matches_text (s : ByteArray) (i v : Nat) (hm : Matches s i v) : IsText (s.extract i (i + (codeL v).length)) (codeL v) := by
  obtain ⟨h1, h2⟩ := hm
  have hsz : (s.extract i (i + (codeL v).length)).size = (codeL v).length := by rw [ByteArray.size_extract]; omega
  refine ⟨hsz, fun k hk => ?_⟩
  rw [← h2 k hk, ← bn_eq _ _ (by rw [hsz]; exact hk), ← bn_eq s _ (by omega), ByteArray.getElem_extract]

set_option maxHeartbeats 1000000 in
theorem thing_shut (s : ByteArray) (i : Nat) (q : Int) (w : World) (hz : s.size ≤ 1152921504606846976) (hi : i < s.size) (h : bt s i = q) :
    Calls Tryd.prog 105 #[.string s, .int .i64 i, .int .u8 q] w (ThingIs ⟨#[]⟩ 0 (i + 1) true 0 w) := by
  have hbt := get_bt s
  have h' : (bt s i == q) = true := by rw [beq_iff_eq]; exact h
  clear h
  go_enter Tryd.func105, Tryd.ntmps105
  go_wp2
  refine bodyPost_ret ?_ rfl ⟨rfl, ?_⟩
  · simp [results, Tryd.results105, go_sem]
  · exact Below.refl _ _
set_option maxHeartbeats 1000000 in
theorem thing_ctl (s : ByteArray) (i : Nat) (q : Int) (w : World) (hi : i < s.size) (h : bt s i ≠ q) (h92 : bt s i ≠ 92) (hc : bt s i < 32 ∨ bt s i = 127) :
    Calls Tryd.prog 105 #[.string s, .int .i64 i, .int .u8 q] w (ThingIs ⟨#[]⟩ 0 i false 10 w) := by
  have hbt := get_bt s
  have h' : (bt s i == q) = false := by rw [beq_eq_false_iff_ne]; exact h
  have g3 : (bt s i == 92) = false := by rw [beq_eq_false_iff_ne]; exact h92
  have g4 : (decide (bt s i < 32) || (bt s i == 127)) = true := by simpa using hc
  obtain ⟨b, hb⟩ : ∃ b, b = bt s i := ⟨_, rfl⟩
  rcases hc with hc | hc
  · have g1 : decide (bt s i < 32) = true := by simpa using hc
    clear h h92 hc g4
    go_enter Tryd.func105, Tryd.ntmps105
    go_wp2
    refine bodyPost_ret ?_ rfl ⟨rfl, ?_⟩
    · simp [results, Tryd.results105, go_sem]
    · exact Below.refl _ _
  · have g1 : decide (bt s i < 32) = false := by simp; omega
    have g2 : (bt s i == 127) = true := by rw [beq_iff_eq]; exact hc
    clear h h92 hc g4
    go_enter Tryd.func105, Tryd.ntmps105
    go_wp2
    refine bodyPost_ret ?_ rfl ⟨rfl, ?_⟩
    · simp [results, Tryd.results105, go_sem]
    · exact Below.refl _ _
set_option maxHeartbeats 1000000 in
theorem thing_esc (s : ByteArray) (i : Nat) (q : Int) (w : World) (hz : s.size ≤ 1152921504606846976) (hi : i < s.size) (h : bt s i ≠ q) (h92 : bt s i = 92) :
    Calls Tryd.prog 105 #[.string s, .int .i64 i, .int .u8 q] w fun e w' => ((escN s i = none ∧ ThingIs ⟨#[]⟩ 0 i false 12 w e w') ∨ ∃ c b, ∃ k : Nat, escN s i = some (c, b, k) ∧ ThingIs (textOf (escB c b)) c ((i + k : Nat) : Int) false 0 w e w') := by
  have hbt := get_bt s
  have h' : ((92 : Int) == q) = false := by rw [beq_eq_false_iff_ne, ← h92]; exact h
  clear h
  go_enter Tryd.func105, Tryd.ntmps105
  go_wp2_with (go_at_call 108; refine (rescape_any s i _ hz hi).mono ?_; rintro e w' (⟨hn, rfl, hb⟩ | ⟨c, b, k, hn, rfl, hb⟩))
  · go_wp2
    refine bodyPost_ret ?_ rfl (.inl ⟨hn, rfl, hb⟩)
    simp [results, Tryd.results105, go_sem]
  · go_wp2
    refine bodyPost_ret ?_ rfl (.inr ⟨c, b, k, hn, rfl, hb⟩)
    simp [results, Tryd.results105, go_sem]
set_option maxHeartbeats 1000000 in
theorem thing_lost (s : ByteArray) (i : Nat) (q : Int) (w : World) (hz : s.size ≤ 1152921504606846976) (hi : i < s.size) (h : bt s i ≠ q) (h92 : bt s i ≠ 92) (h1 : 32 ≤ bt s i) (h2 : bt s i ≠ 127) (hl : lost s i) :
    Calls Tryd.prog 105 #[.string s, .int .i64 i, .int .u8 q] w (ThingIs ⟨#[]⟩ 0 i false 13 w) := by
  have hbt := get_bt s
  have h' : (bt s i == q) = false := by rw [beq_eq_false_iff_ne]; exact h
  have g3 : (bt s i == 92) = false := by rw [beq_eq_false_iff_ne]; exact h92
  have g1 : decide (bt s i < 32) = false := by simp; omega
  have g2 : (bt s i == 127) = false := by rw [beq_eq_false_iff_ne]; exact h2
  clear h h92 h1 h2
  have HL := hide_ hl
  clear hl
  go_enter Tryd.func105, Tryd.ntmps105
  go_wp2_with (go_at_call 86; refine (runeAt_lost s i _ (by omega) hi HL.out).mono ?_; rintro e w' ⟨rfl, rfl⟩)
  refine bodyPost_ret ?_ rfl ⟨rfl, ?_⟩
  · simp [results, Tryd.results105, go_sem]
  · exact Below.refl _ _
set_option maxHeartbeats 1000000 in
theorem thing_rune (s : ByteArray) (i : Nat) (q : Int) (w : World) (hz : s.size ≤ 1152921504606846976) (hi : i < s.size) (h : bt s i ≠ q) (h92 : bt s i ≠ 92) (h1 : 32 ≤ bt s i) (h2 : bt s i ≠ 127) (hl : ¬ lost s i) :
    Calls Tryd.prog 105 #[.string s, .int .i64 i, .int .u8 q] w (ThingIs (s.extract i (i + cutN s i)) (cutR s i) ((i + cutN s i : Nat) : Int) false 0 w) := by
  have hbt := get_bt s
  have h' : (bt s i == q) = false := by rw [beq_eq_false_iff_ne]; exact h
  have g3 : (bt s i == 92) = false := by rw [beq_eq_false_iff_ne]; exact h92
  have g1 : decide (bt s i < 32) = false := by simp; omega
  have g2 : (bt s i == 127) = false := by rw [beq_eq_false_iff_ne]; exact h2
  clear h h92 h1 h2
  have HL := hide_ hl
  clear hl
  have hcall := fun W => runeAt_found s i W (by omega) hi HL.out
  have hN0 := cutN_pos s i
  have hN1 := cutN_fits s i hi
  obtain ⟨n, hn⟩ : ∃ n, n = cutN s i := ⟨_, rfl⟩
  obtain ⟨r, hr⟩ : ∃ r, r = cutR s i := ⟨_, rfl⟩
  simp only [← hn, ← hr] at hcall
  rw [← hn] at hN0 hN1 ⊢
  rw [← hr]
  have HCALL := hide_ hcall
  clear hcall hn hr
  have g4 : ((n : Int) == 0) = false := by rw [beq_eq_false_iff_ne]; omega
  go_enter Tryd.func105, Tryd.ntmps105
  go_wp2_with (go_at_call 86; refine (HCALL.out _).mono ?_; rintro e w' ⟨rfl, rfl⟩)
  refine bodyPost_ret ?_ rfl ⟨rfl, ?_⟩
  · simp [results, Tryd.results105, go_sem]
  · exact Below.refl _ _
end Go.Proofs.YtmbofpeedjlfhaaDoor
