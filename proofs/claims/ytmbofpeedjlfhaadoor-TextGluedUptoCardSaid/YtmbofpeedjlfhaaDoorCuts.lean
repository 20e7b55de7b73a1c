/-
  The plain law of a text's cutting into runes: no program in sight. 'cuts s': the places and numbers.
-/
import Derived.WalkKit
import Derived.PlainAid
import Derived.Lib.DecodeN
namespace Go.Proofs.YtmbofpeedjlfhaaDoor
set_option maxRecDepth 100000
open Go.RowKit Go.PlainAid

/-- byte k of a string, as a natural number; 0 behind its end -/
def bn (s : ByteArray) (k : Nat) : Nat := (s.get! k).toNat
theorem bn_lt (s : ByteArray) (k : Nat) : bn s k < 256 := (s.get! k).toNat_lt
theorem get!_eq (s : ByteArray) (k : Nat) (h : k < s.size) : s.get! k = s[k]'h := by
  have := get_at s k h
  simpa using this
theorem bn_eq (s : ByteArray) (k : Nat) (h : k < s.size) : (s[k]'h).toNat = bn s k := by
  unfold bn
  rw [get!_eq s k h]
theorem bt_eq (s : ByteArray) (k : Nat) (h : k < s.size) : bt s k = (bn s k : Int) := by
  rw [← get_bt s k h, bn_eq s k h]

/-- the byte at a place belongs to no rune -/
def lost (s : ByteArray) (i : Nat) : Prop := (Utf8.decode s i).1 = 65533 ∧ (Utf8.decode s i).2 = 1
instance (s : ByteArray) (i : Nat) : Decidable (lost s i) := inferInstanceAs (Decidable (_ ∧ _))
/-- what is told at a place: the number, and how many bytes -/
def cutR (s : ByteArray) (i : Nat) : Int := if lost s i then -1 - (bn s i : Int) else ((Utf8.decode s i).1 : Int)
def cutN (s : ByteArray) (i : Nat) : Nat := (Utf8.decode s i).2

def cutsF (s : ByteArray) : Nat → Nat → List (Nat × Int)
  | 0, _ => []
  | f + 1, i => if i < s.size then (i, cutR s i) :: cutsF s f (i + cutN s i) else []
def cuts (s : ByteArray) : List (Nat × Int) := cutsF s s.size 0

theorem decodeN_pos (n b0 b1 b2 b3 : Nat) : 1 ≤ (Lib.decodeN n b0 b1 b2 b3).2 := by
  unfold Lib.decodeN
  repeat' split
  all_goals simp
theorem decodeN_fits (n b0 b1 b2 b3 : Nat) (hn : 1 ≤ n) : (Lib.decodeN n b0 b1 b2 b3).2 ≤ n := by
  unfold Lib.decodeN
  repeat' split
  all_goals simp
  all_goals omega
theorem decodeN_rune (n b0 b1 b2 b3 : Nat) : (Lib.decodeN n b0 b1 b2 b3).1 ≤ 1114111 ∧ ¬ (55296 ≤ (Lib.decodeN n b0 b1 b2 b3).1 ∧ (Lib.decodeN n b0 b1 b2 b3).1 ≤ 57343) := by
  unfold Lib.decodeN
  repeat' split
  all_goals simp
  all_goals omega
theorem cutN_pos (s : ByteArray) (i : Nat) : 1 ≤ cutN s i := by unfold cutN; rw [Lib.decode_at]; exact decodeN_pos _ _ _ _ _
theorem cutN_fits (s : ByteArray) (i : Nat) (h : i < s.size) : i + cutN s i ≤ s.size := by
  have := decodeN_fits (s.size - i) (s.get! i).toNat (s.get! (i + 1)).toNat (s.get! (i + 2)).toNat (s.get! (i + 3)).toNat (by omega)
  unfold cutN
  rw [Lib.decode_at]
  omega
theorem cutR_bd (s : ByteArray) (i : Nat) : -256 ≤ cutR s i ∧ cutR s i ≤ 1114111 := by
  have h1 := (decodeN_rune (s.size - i) (s.get! i).toNat (s.get! (i + 1)).toNat (s.get! (i + 2)).toNat (s.get! (i + 3)).toNat).1
  have h2 := bn_lt s i
  unfold cutR
  rw [Lib.decode_at]
  split <;> omega

theorem cutsF_fuel (s : ByteArray) : ∀ (f g i : Nat), s.size - i ≤ f → s.size - i ≤ g → cutsF s f i = cutsF s g i := by
  intro f
  induction f with
  | zero =>
    intro g i hf _
    cases g with
    | zero => rfl
    | succ g => rw [cutsF, cutsF, if_neg (by omega)]
  | succ f ih =>
    intro g i hf hg
    cases g with
    | zero => rw [cutsF, cutsF, if_neg (by omega)]
    | succ g =>
      rw [cutsF, cutsF]
      have := cutN_pos s i
      split
      · rw [ih g (i + cutN s i) (by omega) (by omega)]
      · rfl

/-- what is cut from place i on -/
def cutsAt (s : ByteArray) (i : Nat) : List (Nat × Int) := cutsF s s.size i
theorem cutsAt_lt (s : ByteArray) (i : Nat) (h : i < s.size) : cutsAt s i = (i, cutR s i) :: cutsAt s (i + cutN s i) := by
  unfold cutsAt
  have := cutN_pos s i
  rw [cutsF_fuel s s.size (s.size + 1) i (by omega) (by omega), cutsF, if_pos h]
theorem cutsAt_ge (s : ByteArray) (i : Nat) (h : s.size ≤ i) : cutsAt s i = [] := by
  unfold cutsAt
  cases hs : s.size with
  | zero => rfl
  | succ n => rw [cutsF, if_neg (by omega)]
theorem cutsF_mem (s : ByteArray) : ∀ (f i : Nat) (x : Nat × Int), x ∈ cutsF s f i → x.1 < s.size ∧ x.2 = cutR s x.1 := by
  intro f
  induction f with
  | zero => intro i x hx; simp [cutsF] at hx
  | succ f ih =>
    intro i x hx
    rw [cutsF] at hx
    split at hx
    · rcases List.mem_cons.1 hx with rfl | hx
      · exact ⟨by assumption, rfl⟩
      · exact ih _ _ hx
    · simp at hx
theorem cuts_mem (s : ByteArray) (x : Nat × Int) (h : x ∈ cuts s) : x.1 < s.size ∧ x.2 = cutR s x.1 := cutsF_mem s _ _ x h
theorem cuts_at (s : ByteArray) : cuts s = cutsAt s 0 := rfl
theorem cutsAt_len (s : ByteArray) (i : Nat) : (cutsAt s i).length ≤ s.size - i := by
  have key : ∀ n i, s.size - i ≤ n → (cutsAt s i).length ≤ s.size - i := by
    intro n
    induction n with
    | zero => intro i h; rw [cutsAt_ge s i (by omega)]; simp
    | succ n ih =>
      intro i h
      by_cases hi : i < s.size
      · have h1 := cutN_pos s i
        have h2 := ih (i + cutN s i) (by omega)
        rw [cutsAt_lt s i hi, List.length_cons]
        omega
      · rw [cutsAt_ge s i (by omega)]; simp
  exact key _ i (Nat.le_refl _)

/-- a lost byte is one of those that begin no rune, and the rune 65533 is written with three bytes -/
theorem fffd (s : ByteArray) (i : Nat) (h : i < s.size) : (Utf8.decode s i).1 = 65533 → ((Utf8.decode s i).2 = 1 ∨ ((Utf8.decode s i).2 = 3 ∧ i + 3 ≤ s.size ∧ bn s i = 239 ∧ bn s (i + 1) = 191 ∧ bn s (i + 2) = 189)) := by
  rw [Lib.decode_at]
  have h0 : (s.get! i).toNat < 256 := (s.get! i).toNat_lt
  have h1 : (s.get! (i + 1)).toNat < 256 := (s.get! (i + 1)).toNat_lt
  have h2 : (s.get! (i + 2)).toNat < 256 := (s.get! (i + 2)).toNat_lt
  have h3 : (s.get! (i + 3)).toNat < 256 := (s.get! (i + 3)).toNat_lt
  unfold bn Lib.decodeN
  repeat' split
  all_goals simp
  all_goals omega
theorem fffd_back (s : ByteArray) (i : Nat) (h : i + 3 ≤ s.size) (h0 : bn s i = 239) (h1 : bn s (i + 1) = 191) (h2 : bn s (i + 2) = 189) : Utf8.decode s i = (65533, 3) := by
  rw [Lib.decode_at]
  unfold bn at h0 h1 h2
  rw [h0, h1, h2]
  unfold Lib.decodeN
  simp
  omega
end Go.Proofs.YtmbofpeedjlfhaaDoor
