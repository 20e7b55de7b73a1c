/-
  The code of a rune's number, as the statements have it; that bytes that are a number's code are decoded to it, and the other way about; the walk of 'coded'.
-/
import Derived.Test.YtmbofpeedjlfhaaDoorProg
import Derived.Test.YtmbofpeedjlfhaaDoorKit
import Derived.Test.YtmbofpeedjlfhaaDoorDec
namespace Go.Proofs.YtmbofpeedjlfhaaDoor
set_option maxRecDepth 100000
open Go.RowKit Go.PlainAid

/-- the code of a number -/
def codeL (r : Nat) : List Nat :=
  if r < 128 then [r] else if r < 2048 then [192 + r / 64, 128 + r % 64]
  else if r < 65536 then [224 + r / 4096, 128 + r / 64 % 64, 128 + r % 64]
  else [240 + r / 262144, 128 + r / 4096 % 64, 128 + r / 64 % 64, 128 + r % 64]
def isRune (r : Nat) : Prop := r ≤ 1114111 ∧ ¬ (55296 ≤ r ∧ r ≤ 57343)
theorem codeL_len (r : Nat) : 1 ≤ (codeL r).length ∧ (codeL r).length ≤ 4 := by
  unfold codeL
  repeat' split
  all_goals simp

/-- what the decoding says, read backwards -/
theorem dec_inv (n b0 b1 b2 b3 r m : Nat) (h : Lib.decodeN n b0 b1 b2 b3 = (r, m)) (hl : ¬ (r = 65533 ∧ m = 1)) (g0 : b0 < 256) (g1 : b1 < 256) (g2 : b2 < 256) (g3 : b3 < 256) :
    (m = 1 ∧ r < 128 ∧ b0 = r) ∨ (m = 2 ∧ 128 ≤ r ∧ r < 2048 ∧ 1 < n ∧ b0 = 192 + r / 64 ∧ b1 = 128 + r % 64) ∨
    (m = 3 ∧ 2048 ≤ r ∧ r < 65536 ∧ 2 < n ∧ b0 = 224 + r / 4096 ∧ b1 = 128 + r / 64 % 64 ∧ b2 = 128 + r % 64) ∨
    (m = 4 ∧ 65536 ≤ r ∧ 3 < n ∧ b0 = 240 + r / 262144 ∧ b1 = 128 + r / 4096 % 64 ∧ b2 = 128 + r / 64 % 64 ∧ b3 = 128 + r % 64) := by
  have bad : Lib.decodeN n b0 b1 b2 b3 = (65533, 1) → False := fun e => by
    rw [e] at h
    injection h with h1 h2
    exact hl ⟨h1.symm, h2.symm⟩
  by_cases c1 : b0 < 128
  · have e : Lib.decodeN n b0 b1 b2 b3 = (b0, 1) := by unfold Lib.decodeN; rw [if_pos c1]
    rw [e] at h
    injection h with h1 h2
    exact .inl ⟨h2.symm, by omega, h1⟩
  by_cases c2 : b0 < 192
  · exact (bad (dz1 _ _ _ _ _ (by omega) g0)).elim
  by_cases c3 : b0 < 224
  · by_cases hb : 1 < n ∧ 128 ≤ b1 ∧ b1 ≤ 191 ∧ 128 ≤ (b0 - 192) * 64 + (b1 - 128)
    · rw [dv2 _ _ _ _ _ (by omega) hb] at h
      injection h with h1 h2
      exact .inr (.inl (by omega))
    · exact (bad (dz2 _ _ _ _ _ g1 (by omega) hb)).elim
  by_cases c4 : b0 < 240
  · by_cases hb : 2 < n ∧ (128 ≤ b1 ∧ b1 ≤ 191) ∧ (128 ≤ b2 ∧ b2 ≤ 191) ∧ 2048 ≤ ((b0 - 224) * 64 + (b1 - 128)) * 64 + (b2 - 128) ∧ ¬ (55296 ≤ ((b0 - 224) * 64 + (b1 - 128)) * 64 + (b2 - 128) ∧ ((b0 - 224) * 64 + (b1 - 128)) * 64 + (b2 - 128) ≤ 57343)
    · rw [dv3 _ _ _ _ _ (by omega) hb] at h
      injection h with h1 h2
      obtain ⟨q1, q2, q3, q4, q5⟩ := hb
      exact .inr (.inr (.inl ⟨h2.symm, by omega, by omega, q1, by omega, by omega, by omega⟩))
    · exact (bad (dz3 _ _ _ _ _ g1 g2 (by omega) hb)).elim
  by_cases c5 : b0 < 248
  · by_cases hb : 3 < n ∧ (128 ≤ b1 ∧ b1 ≤ 191) ∧ (128 ≤ b2 ∧ b2 ≤ 191) ∧ (128 ≤ b3 ∧ b3 ≤ 191) ∧ 65536 ≤ (((b0 - 240) * 64 + (b1 - 128)) * 64 + (b2 - 128)) * 64 + (b3 - 128) ∧ (((b0 - 240) * 64 + (b1 - 128)) * 64 + (b2 - 128)) * 64 + (b3 - 128) ≤ 1114111
    · rw [dv4 _ _ _ _ _ (by omega) hb] at h
      injection h with h1 h2
      obtain ⟨q1, q2, q3, q4, q5, q6⟩ := hb
      exact .inr (.inr (.inr ⟨h2.symm, by omega, q1, by omega, by omega, by omega, by omega⟩))
    · exact (bad (dz4 _ _ _ _ _ g1 g2 g3 (by omega) hb)).elim
  · exact (bad (dz1 _ _ _ _ _ (by omega) g0)).elim
theorem dec_of (n b0 b1 b2 b3 r : Nat) (hr : isRune r) (h : (r < 128 ∧ b0 = r) ∨ (128 ≤ r ∧ r < 2048 ∧ 1 < n ∧ b0 = 192 + r / 64 ∧ b1 = 128 + r % 64) ∨
    (2048 ≤ r ∧ r < 65536 ∧ 2 < n ∧ b0 = 224 + r / 4096 ∧ b1 = 128 + r / 64 % 64 ∧ b2 = 128 + r % 64) ∨
    (65536 ≤ r ∧ 3 < n ∧ b0 = 240 + r / 262144 ∧ b1 = 128 + r / 4096 % 64 ∧ b2 = 128 + r / 64 % 64 ∧ b3 = 128 + r % 64)) : Lib.decodeN n b0 b1 b2 b3 = (r, (codeL r).length) := by
  obtain ⟨hr1, hr2⟩ := hr
  unfold codeL
  rcases h with ⟨h1, h2⟩ | ⟨h1, h2, h3, h4, h5⟩ | ⟨h1, h2, h3, h4, h5, h6⟩ | ⟨h1, h2, h3, h4, h5, h6⟩
  · rw [if_pos h1]
    unfold Lib.decodeN
    rw [if_pos (by omega), h2]
    rfl
  · rw [if_neg (by omega), if_pos h2, dv2 _ _ _ _ _ (by omega) ⟨h3, by omega, by omega, by omega⟩]
    exact Prod.ext (by show _ = _; omega) rfl
  · have e : ((b0 - 224) * 64 + (b1 - 128)) * 64 + (b2 - 128) = r := by omega
    rw [if_neg (by omega), if_neg (by omega), if_pos h2, dv3 _ _ _ _ _ (by omega) ⟨h3, by omega, by omega, by rw [e]; exact h1, by rw [e]; exact hr2⟩, e]
    rfl
  · have e : (((b0 - 240) * 64 + (b1 - 128)) * 64 + (b2 - 128)) * 64 + (b3 - 128) = r := by omega
    rw [if_neg (by omega), if_neg (by omega), if_neg (by omega), dv4 _ _ _ _ _ (by omega) ⟨h2, by omega, by omega, by omega, by rw [e]; exact h1, by rw [e]; exact hr1⟩, e]
    rfl

/-- the bytes from place i on are the code of r -/
def Matches (s : ByteArray) (i r : Nat) : Prop := i + (codeL r).length ≤ s.size ∧ ∀ k, k < (codeL r).length → bn s (i + k) = (codeL r)[k]?.getD 0

theorem matches_of (s : ByteArray) (i r : Nat) (h : Utf8.decode s i = (r, (codeL r).length)) (hi : i < s.size) (hl : ¬ lost s i) : Matches s i r := by
  have hf := cutN_fits s i hi
  unfold cutN at hf
  rw [h] at hf
  refine ⟨hf, ?_⟩
  have hl' : ¬ (r = 65533 ∧ (codeL r).length = 1) := by
    unfold lost at hl
    rw [h] at hl
    exact hl
  rw [Lib.decode_at] at h
  have := dec_inv _ _ _ _ _ _ _ h hl' (s.get! i).toNat_lt (s.get! (i + 1)).toNat_lt (s.get! (i + 2)).toNat_lt (s.get! (i + 3)).toNat_lt
  unfold bn
  rcases this with ⟨_, h1, h2⟩ | ⟨_, h1, h2, _, h3, h4⟩ | ⟨_, h1, h2, _, h3, h4, h5⟩ | ⟨_, h1, _, h3, h4, h5, h6⟩
  · unfold codeL
    rw [if_pos h1]
    intro k hk
    obtain rfl : k = 0 := by simpa using hk
    exact h2
  · unfold codeL
    rw [if_neg (by omega), if_pos h2]
    intro k hk
    rcases (show k = 0 ∨ k = 1 by simp at hk; omega) with rfl | rfl
    · exact h3
    · exact h4
  · unfold codeL
    rw [if_neg (by omega), if_neg (by omega), if_pos h2]
    intro k hk
    rcases (show k = 0 ∨ k = 1 ∨ k = 2 by simp at hk; omega) with rfl | rfl | rfl
    · exact h3
    · exact h4
    · exact h5
  · unfold codeL
    rw [if_neg (by omega), if_neg (by omega), if_neg (by omega)]
    intro k hk
    rcases (show k = 0 ∨ k = 1 ∨ k = 2 ∨ k = 3 by simp at hk; omega) with rfl | rfl | rfl | rfl
    · exact h3
    · exact h4
    · exact h5
    · exact h6
theorem decode_of (s : ByteArray) (i r : Nat) (hr : isRune r) (h : Matches s i r) : Utf8.decode s i = (r, (codeL r).length) := by
  rw [Lib.decode_at]
  obtain ⟨h0, hk⟩ := h
  refine dec_of _ _ _ _ _ _ hr ?_
  unfold bn at hk
  unfold codeL at h0 hk
  by_cases c1 : r < 128
  · rw [if_pos c1] at hk
    exact .inl ⟨c1, hk 0 (by simp)⟩
  by_cases c2 : r < 2048
  · rw [if_neg c1, if_pos c2] at hk h0
    simp only [List.length_cons, List.length_nil] at h0
    exact .inr (.inl ⟨by omega, c2, by omega, hk 0 (by simp), hk 1 (by simp)⟩)
  by_cases c3 : r < 65536
  · rw [if_neg c1, if_neg c2, if_pos c3] at hk h0
    simp only [List.length_cons, List.length_nil] at h0
    exact .inr (.inr (.inl ⟨by omega, c3, by omega, hk 0 (by simp), hk 1 (by simp), hk 2 (by simp)⟩))
  · rw [if_neg c1, if_neg c2, if_neg c3] at hk h0
    simp only [List.length_cons, List.length_nil] at h0
    exact .inr (.inr (.inr ⟨by omega, by omega, hk 0 (by simp), hk 1 (by simp), hk 2 (by simp), hk 3 (by simp)⟩))
theorem not_lost_of (s : ByteArray) (i r : Nat) (hr : isRune r) (h : Matches s i r) : ¬ lost s i := by
  unfold lost
  rw [decode_of s i r hr h]
  rintro ⟨rfl, h2⟩
  simp [codeL] at h2
/-- a rune that is told has its code there -/
theorem cut_code (s : ByteArray) (i : Nat) (hi : i < s.size) (hl : ¬ lost s i) : isRune (Utf8.decode s i).1 ∧ Matches s i (Utf8.decode s i).1 ∧ cutN s i = (codeL (Utf8.decode s i).1).length := by
  have h1 := decodeN_rune (s.size - i) (s.get! i).toNat (s.get! (i + 1)).toNat (s.get! (i + 2)).toNat (s.get! (i + 3)).toNat
  rw [← Lib.decode_at] at h1
  have hr : isRune (Utf8.decode s i).1 := h1
  have hd : Utf8.decode s i = ((Utf8.decode s i).1, (codeL (Utf8.decode s i).1).length) := by
    have h2 := dec_inv _ _ _ _ _ (Utf8.decode s i).1 (Utf8.decode s i).2 (Lib.decode_at s i).symm hl (s.get! i).toNat_lt (s.get! (i + 1)).toNat_lt (s.get! (i + 2)).toNat_lt (s.get! (i + 3)).toNat_lt
    refine Prod.ext rfl ?_
    show (Utf8.decode s i).2 = (codeL (Utf8.decode s i).1).length
    unfold codeL
    rcases h2 with ⟨h, h1, _⟩ | ⟨h, h1, h2, _⟩ | ⟨h, h1, h2, _⟩ | ⟨h, h1, _⟩
    · rw [h, if_pos h1]; rfl
    · rw [h, if_neg (by omega), if_pos h2]; rfl
    · rw [h, if_neg (by omega), if_neg (by omega), if_pos h2]; rfl
    · rw [h, if_neg (by omega), if_neg (by omega), if_neg (by omega)]; rfl
  exact ⟨hr, matches_of s i _ hd hi hl, by unfold cutN; exact congrArg Prod.snd hd⟩

end Go.Proofs.YtmbofpeedjlfhaaDoor
