/-
  The line and the column of a place: plain law.
-/
import Derived.Lib.Bytealg
import Derived.Lib.LastIndexByte
import Derived.Test.YtmbofpeedjlfhaaDoorCuts
namespace Go.Proofs.YtmbofpeedjlfhaaDoor
set_option maxRecDepth 100000
open Go.RowKit Go.PlainAid

/-- the line ends among the first k bytes -/
def endsN (s : ByteArray) : Nat → Nat
  | 0 => 0
  | k + 1 => endsN s k + (if bn s k = 10 then 1 else 0)
/-- the place behind the last line end among the first k bytes -/
def beginN (s : ByteArray) : Nat → Nat
  | 0 => 0
  | k + 1 => if bn s k = 10 then k + 1 else beginN s k
theorem endsN_le (s : ByteArray) (k : Nat) : endsN s k ≤ k := by
  induction k with
  | zero => exact Nat.le_refl _
  | succ k ih => rw [endsN]; split <;> omega
theorem beginN_le (s : ByteArray) (k : Nat) : beginN s k ≤ k := by
  induction k with
  | zero => exact Nat.le_refl _
  | succ k ih => rw [beginN]; split <;> omega
/-- the runes that begin from a place on -/
def colL (l : List (Nat × Int)) (first : Nat) : Nat := (l.filter fun x => decide (first ≤ x.1)).length
theorem colL_snoc (l : List (Nat × Int)) (x : Nat × Int) (first : Nat) : colL (l ++ [x]) first = colL l first + (if first ≤ x.1 then 1 else 0) := by
  unfold colL
  rw [List.filter_append, List.length_append]
  by_cases h : first ≤ x.1 <;> simp [h]
theorem colL_le (l : List (Nat × Int)) (first : Nat) : colL l first ≤ l.length := List.length_filter_le _ _
/-- the column of a place -/
def colN (s : ByteArray) (first at_ : Nat) : Nat := colL ((cuts s).filter fun x => decide (x.1 < at_)) first + 1
theorem cutsF_ge (s : ByteArray) : ∀ (f i : Nat), ∀ x ∈ cutsF s f i, i ≤ x.1 := by
  intro f
  induction f with
  | zero => intro i x hx; simp [cutsF] at hx
  | succ f ih =>
    intro i x hx
    rw [cutsF] at hx
    split at hx
    · rcases List.mem_cons.1 hx with rfl | hx
      · exact Nat.le_refl _
      · have := ih _ x hx; omega
    · simp at hx
theorem cutsF_sorted (s : ByteArray) : ∀ (f i : Nat), (cutsF s f i).Pairwise (fun x y => x.1 < y.1) := by
  intro f
  induction f with
  | zero => intro i; exact List.Pairwise.nil
  | succ f ih =>
    intro i
    rw [cutsF]
    split
    · refine List.Pairwise.cons (fun y hy => ?_) (ih _)
      have := cutsF_ge s f _ y hy
      have := cutN_pos s i
      simp only
      omega
    · exact List.Pairwise.nil
theorem cuts_sorted (s : ByteArray) : (cuts s).Pairwise (fun x y => x.1 < y.1) := cutsF_sorted s _ 0
/-- left behind the runes ahead of the place -/
theorem col_stop (s : ByteArray) (pre : List (Nat × Int)) (x : Nat × Int) (at_ : Nat) (first : Nat) (h : pre ++ [x] <+: cuts s) (hx : at_ ≤ x.1) (hp : ∀ y ∈ pre, y.1 < at_) : colN s first at_ = colL pre first + 1 := by
  obtain ⟨t, ht⟩ := h
  have hs := cuts_sorted s
  rw [← ht] at hs
  have h2 : ∀ y ∈ t, x.1 < y.1 := fun y hy => (List.pairwise_append.1 hs).2.2 x (by simp) y hy
  unfold colN
  rw [← ht, List.filter_append, List.filter_append]
  have e1 : pre.filter (fun x => decide (x.1 < at_)) = pre := List.filter_eq_self.2 (fun y hy => by simpa using hp y hy)
  have e2 : [x].filter (fun x => decide (x.1 < at_)) = [] := by simp; omega
  have e3 : t.filter (fun x => decide (x.1 < at_)) = [] := List.filter_eq_nil_iff.2 (fun y hy => by have := h2 y hy; simp; omega)
  rw [e1, e2, e3]
  simp
theorem col_all (s : ByteArray) (at_ first : Nat) (hp : ∀ y ∈ cuts s, y.1 < at_) : colN s first at_ = colL (cuts s) first + 1 := by
  unfold colN
  rw [List.filter_eq_self.2 (fun y hy => by simpa using hp y hy)]
theorem take_bytes (s : ByteArray) (k : Nat) : (s.extract 0 k).data.toList = s.data.toList.take k := by
  simp [ByteArray.data_extract]
theorem count_ends (s : ByteArray) (k : Nat) (h : k ≤ s.size) : Lib.countByte (s.extract 0 k).data.toList 10 = endsN s k := by
  rw [take_bytes s k]
  unfold Lib.countByte
  induction k with
  | zero => simp [endsN]
  | succ k ih =>
    have hk : k < s.data.toList.length := by have : k < s.size := h; simpa using this
    rw [List.take_succ_eq_append_getElem hk, List.count_append, ih (by omega), endsN]
    have e : (s.data.toList[k]).toNat = bn s k := bn_eq s k (by omega)
    by_cases c : bn s k = 10
    · have : s.data.toList[k] = 10 := by
        have : (s.data.toList[k]).toNat = (10 : UInt8).toNat := by rw [e, c]; rfl
        exact UInt8.toNat_inj.1 this
      rw [if_pos c, this]; simp
    · have : s.data.toList[k] ≠ 10 := fun x => c (by rw [← e, x]; rfl)
      rw [if_neg c, List.count_singleton, if_neg (by simpa using this)]
theorem last_begin (s : ByteArray) (n : Nat) (h : n ≤ s.size) : ∀ k, k ≤ n → Lib.lastIdx (s.extract 0 n) 10 k + 1 = beginN s k := by
  intro k
  induction k with
  | zero => intro _; rfl
  | succ k ih =>
    intro hk
    have hs : k < (s.extract 0 n).size := by rw [ByteArray.size_extract]; omega
    have e : (((s.extract 0 n).data[k]!).toNat : Int) = (bn s k : Int) := by
      have e1 : (s.extract 0 n).data[k]! = (s.extract 0 n)[k]'hs := getElem!_pos (s.extract 0 n).data k hs
      rw [e1, ByteArray.getElem_extract, bn_eq s _ (by omega), Nat.zero_add]
    rw [Lib.lastIdx, beginN, e]
    by_cases c : bn s k = 10
    · rw [if_pos (by omega), if_pos c]; rfl
    · rw [if_neg (by omega), if_neg c]; exact ih (by omega)
theorem last_at (s : ByteArray) (n : Nat) (h : n ≤ s.size) : Lib.lastIndexByte (s.extract 0 n) 10 = (beginN s n : Int) - 1 := by
  have hs : (s.extract 0 n).size = n := by rw [ByteArray.size_extract]; omega
  unfold Lib.lastIndexByte
  have := last_begin s n h n (Nat.le_refl _)
  rw [hs]
  omega
end Go.Proofs.YtmbofpeedjlfhaaDoor
