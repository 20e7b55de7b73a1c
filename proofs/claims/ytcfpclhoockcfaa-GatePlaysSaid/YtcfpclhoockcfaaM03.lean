/-
  The walks of gate.Fits and of the document's Fits.
-/
import Derived.Test.YtcfpclhoockcfaaM02
namespace Go.Proofs.Ytcfpclhoockcfaa
set_option maxRecDepth 100000
open Go.RowKit

/-- one write of a reply: where, and its bytes' slice -/
structure Wr where
  at_ : Int
  A : Option Addr
  n : Nat
  c : Nat
def WReads (w : World) (B : Nat) (A : Option Addr) (n : Nat) (ws : Nat → Wr) : Prop :=
  0 < n → ∃ ad, A = some ad ∧ ad.block < B ∧ ∀ j, j < n → w.cell? (ad.add (j * 2)) = some (.int .u32 (ws j).at_) ∧ w.cell? ⟨(ad.add (j * 2)).block, (ad.add (j * 2)).off + 1, none⟩ = some (.slice (ws j).A (ws j).n (ws j).c)
def fitsN (n : Nat) (ws : Nat → Wr) (k : Nat) : Bool := decide (n ≤ 16) && (List.range k).all fun j => decide ((ws j).n ≤ 256)
theorem fitsN_big (n : Nat) (ws : Nat → Wr) (h : ¬ n ≤ 16) : fitsN n ws n = false := by unfold fitsN; simp [h]
theorem fitsN_no (n : Nat) (ws : Nat → Wr) (k : Nat) (hk : k < n) (h : ¬ (ws k).n ≤ 256) : fitsN n ws n = false := by
  unfold fitsN
  simp only [Bool.and_eq_false_iff, List.all_eq_false, List.mem_range, decide_eq_true_eq]
  exact .inr ⟨k, hk, h⟩
theorem fitsN_yes (n : Nat) (ws : Nat → Wr) (h16 : n ≤ 16) (h : ∀ j, j < n → (ws j).n ≤ 256) : fitsN n ws n = true := by
  unfold fitsN
  simpa [h16] using h
theorem WReads.keep {w w' : World} {B n : Nat} {A : Option Addr} {ws : Nat → Wr} (h : WReads w B A n ws) (hk : ∀ p : Addr, p.block < B → w'.cell? p = w.cell? p) : WReads w' B A n ws := fun hn => by
  obtain ⟨ad, e, hb, hc⟩ := h hn
  exact ⟨ad, e, hb, fun j hj => ⟨(hk _ (by rw [block_of_add]; exact hb)).trans (hc j hj).1, (hk _ (by rw [block_of_add]; exact hb)).trans (hc j hj).2⟩⟩
theorem WReads.below {w w' : World} {B n : Nat} {A : Option Addr} {ws : Nat → Wr} (h : WReads w B A n ws) (hb : Below B w w') : WReads w' B A n ws := h.keep fun _ hp => hb.cell hp
theorem WReads.more {w : World} {B B' n : Nat} {A : Option Addr} {ws : Nat → Wr} (h : WReads w B A n ws) (hB : B ≤ B') : WReads w B' A n ws := fun hn => by
  obtain ⟨ad, e, hb, hc⟩ := h hn
  exact ⟨ad, e, by omega, hc⟩
/-- what the walk asks of the write at place k -/
theorem WReads.at_ {w : World} {B n k : Nat} {A : Option Addr} {ws : Nat → Wr} (h : WReads w B A n ws) (hk : k < n) :
    ∃ ad, A = some ad ∧ (ad.add (k * 2)).block < B ∧ w.cell? (ad.add (k * 2)) = some (.int .u32 (ws k).at_) ∧ w.cell? ⟨(ad.add (k * 2)).block, (ad.add (k * 2)).off + 1, none⟩ = some (.slice (ws k).A (ws k).n (ws k).c) := by
  obtain ⟨ad, rfl, hb, hc⟩ := h (by omega)
  exact ⟨ad, rfl, by rw [block_of_add]; exact hb, (hc k hk).1, (hc k hk).2⟩
set_option maxHeartbeats 400000 in
theorem rFits_any (v : Int) (A : Option Addr) (n c B : Nat) (ws : Nat → Wr) (w : World) (h : WReads w B A n ws) (hB : B ≤ w.heap.size) (hn : n ≤ maxLen) :
    Calls Try.prog 39 #[.agg #[.int .u32 v, .slice A n c]] w fun e w' => e = .returned (.bool (fitsN n ws n)) ∧ Below w.heap.size w w' := by
  unfold maxLen at hn
  by_cases h16 : n ≤ 16
  · have d1 : decide ((16 : Int) < n) = false := by simp; omega
    go_enter Try.func39, Try.ntmps39
    go_wp2
    go_loopw [3] (fun i wr => ∃ k : Nat, k ≤ n ∧ i = .int .i64 k ∧ Hid (∀ j, j < k → (ws j).n ≤ 256) ∧ wr = w.alloc (.cells #[.int .u32 v, .slice A n c] 43)) (fun i _ => n - (intOf i).toNat)
    case atStart => exact ⟨0, Nat.zero_le _, rfl, hide_ (fun j hj => absurd hj (by omega)), rfl⟩
    case round =>
      obtain ⟨k, hk, rfl, hf, rfl⟩ := hrel
      by_cases hlt : k < n
      · obtain ⟨ad, rfl, hb, hc0, hc1⟩ := h.at_ hlt
        have hb' : (ad.add (k * 2)).block < w.heap.size := by omega
        clear hb
        by_cases h256 : (ws k).n ≤ 256
        · have d2 : decide ((256 : Int) < ((ws k).n : Int)) = false := by simp; omega
          go_wp2
          go_roundw
          case rel =>
            refine ⟨k + 1, by omega, by go_num, hide_ (fun j hj => ?_), by trivial⟩
            by_cases e : j = k
            · subst e; exact h256
            · exact hf.out j (by omega)
          case measure => simp [intOf]; omega
        · have d2 : decide ((256 : Int) < ((ws k).n : Int)) = true := by simp; omega
          have HF := hide_ (fitsN_no n ws k hlt h256)
          clear h256
          go_wp2
          go_ret
          exact ⟨by rw [HF.out]; rfl, (Below.refl _ _).alloc (Nat.le_refl _) _⟩
      · obtain rfl : k = n := by omega
        have HF := hide_ (fitsN_yes k ws h16 hf.out)
        go_wp2
        go_ret
        exact ⟨by rw [HF.out]; rfl, (Below.refl _ _).alloc (Nat.le_refl _) _⟩
  · have d1 : decide ((16 : Int) < n) = true := by simp; omega
    go_enter Try.func39, Try.ntmps39
    go_wp2
    go_ret
    exact ⟨by rw [fitsN_big n ws h16]; rfl, (Below.refl _ _).alloc (Nat.le_refl _) _⟩
set_option maxHeartbeats 400000 in
theorem gFits_any (v : Int) (A : Option Addr) (n c B : Nat) (ws : Nat → Wr) (w : World) (h : WReads w B A n ws) (hB : B ≤ w.heap.size) (hn : n ≤ maxLen) :
    Calls Try.prog 54 #[.agg #[.int .u32 v, .slice A n c]] w fun e w' => e = .returned (.bool (fitsN n ws n)) ∧ Below w.heap.size w w' := by
  unfold maxLen at hn
  by_cases h16 : n ≤ 16
  · have d1 : decide ((16 : Int) < n) = false := by simp; omega
    go_enter Try.func54, Try.ntmps54
    go_wp2
    go_loopw [12] (fun i wr => ∃ k : Nat, k ≤ n ∧ i = .int .i64 k ∧ Hid (∀ j, j < k → (ws j).n ≤ 256) ∧ Below w.heap.size w wr) (fun i _ => n - (intOf i).toNat)
    case atStart => exact ⟨0, Nat.zero_le _, rfl, hide_ (fun j hj => absurd hj (by omega)), (Below.refl _ _).alloc (Nat.le_refl _) _⟩
    case round =>
      obtain ⟨k, hk, rfl, hf, hbl⟩ := hrel
      by_cases hlt : k < n
      · obtain ⟨ad, rfl, hb, hc0, hc1⟩ := (h.below (hbl.mono hB)).at_ hlt
        have hsz := hbl.size
        have hb' : (ad.add (k * 2)).block < wr.heap.size := by omega
        have HBL := hide_ hbl
        have HSZ := hide_ hsz
        clear hb hsz hbl
        by_cases h256 : (ws k).n ≤ 256
        · have d2 : decide ((256 : Int) < ((ws k).n : Int)) = false := by simp; omega
          go_wp2
          go_roundw
          case rel =>
            refine ⟨k + 1, by omega, by go_num, hide_ (fun j hj => ?_), HBL.out.alloc HSZ.out _⟩
            by_cases e : j = k
            · subst e; exact h256
            · exact hf.out j (by omega)
          case measure => simp [intOf]; omega
        · have d2 : decide ((256 : Int) < ((ws k).n : Int)) = true := by simp; omega
          have HF := hide_ (fitsN_no n ws k hlt h256)
          clear h256
          go_wp2
          go_ret
          exact ⟨by rw [HF.out]; rfl, HBL.out.alloc HSZ.out _⟩
      · obtain rfl : k = n := by omega
        have HF := hide_ (fitsN_yes k ws h16 hf.out)
        go_wp2
        go_ret
        exact ⟨by rw [HF.out]; rfl, hbl⟩
  · have d1 : decide ((16 : Int) < n) = true := by simp; omega
    go_enter Try.func54, Try.ntmps54
    go_wp2
    go_ret
    exact ⟨by rw [fitsN_big n ws h16]; rfl, (Below.refl _ _).alloc (Nat.le_refl _) _⟩
end Go.Proofs.Ytcfpclhoockcfaa
