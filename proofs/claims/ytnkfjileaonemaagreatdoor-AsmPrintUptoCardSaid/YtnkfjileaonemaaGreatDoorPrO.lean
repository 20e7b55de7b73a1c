/-
  A text that grows in a list of bytes of the call's own.
-/
import Derived.Test.YtnkfjileaonemaaGreatDoorPrR2
import Derived.Test.YtnkfjileaonemaaGreatDoorPrB
namespace Go.Proofs.YtnkfjileaonemaaGreatDoor
open Go.RowKit Go.PlainAid Go.BigFrame
set_option linter.unusedSimpArgs false
set_option linter.unusedVariables false
set_option maxRecDepth 100000
/-- the list of bytes, in memory of the call's own: from block b on -/
structure Out (b : Nat) (W0 W : World) (v : Value) (S : ByteArray) : Prop where
  own : W.ownsRow b 5 1 v S.size (Lib.strCells S)
  bel : Below b W0 W
  hb : b ≤ W0.heap.size
section
variable {b : Nat} {W0 W W' : World} {v v' : Value} {S s : ByteArray}
theorem Out.size (h : Out b W0 W v S) : b ≤ W.heap.size := Nat.le_trans h.hb h.bel.size
theorem Out.slice (h : Out b W0 W v S) : ∃ A c, v = .slice A S.size c ∧ S.size ≤ c := by
  obtain ⟨A, c, h1, h2, _⟩ := ownsRow_slice h.own
  exact ⟨A, c, h1, h2⟩
theorem Out.below (h : Out b W0 W v S) (hb : Below W.heap.size W W') : Out b W0 W' v S :=
  ⟨((ownsR h.own).below hb).at_ (i := 0) rfl, h.bel.trans (hb.mono h.size), h.hb⟩
theorem Out.alloc (h : Out b W0 W v S) (o : Obj) : Out b W0 (W.alloc o) v S := h.below ((Below.refl _ _).alloc (Nat.le_refl _) o)
theorem Out.app (h : Out b W0 W v S) (ho : W'.ownsRow b 5 1 v' (S.size + s.size) (Lib.strCells S ++ Lib.strCells s)) (hg : W.grownBy W' v.ownBlock) : Out b W0 W' v' (S ++ s) :=
  ⟨by rw [ba_size, strCells_app]; exact ho, h.bel.grown hg h.size (fun k hk => (h.own.lt k hk).1), h.hb⟩
theorem Out.app_ (s : ByteArray) {m : Nat} (h : Out b W0 W v S) (ho : W'.ownsRow b 5 1 v' m (Lib.strCells S ++ Lib.strCells s)) (hm : m = S.size + s.size) (hg : W.grownBy W' v.ownBlock) : Out b W0 W' v' (S ++ s) :=
  h.app (by rw [← hm]; exact ho) hg
theorem Out.nl (h : Out b W0 W v S) (ho : W'.ownsRow b 5 1 v' (S.size + 1) (Lib.strCells S ++ [.int .u8 10])) (hg : Below b W W') : Out b W0 W' v' (S ++ ⟨#[10]⟩) :=
  ⟨by rw [ba_size, strCells_app]; exact ho, h.bel.trans hg, h.hb⟩
theorem Out.nil_ (W : World) : Out W.heap.size W W (.slice none 0 0) e0B := ⟨World.ownsRow_nil _ _ _ _, Below.refl _ _, Nat.le_refl _⟩
end
theorem out_info : (Tryz.prog.info? 5).map (fun i => (i.zero, i.size, i.bytes)) = some (some (.int .u8 0), 1, 1) := by kernel_rfl
theorem str_of_out {b : Nat} {W0 W : World} {A : Option Addr} {c : Nat} {S : ByteArray} (h : Out b W0 W (.slice A S.size c) S) : (convert 23 9 (.slice A S.size c)).run Tryz.prog W = .ok (.string S) W := by
  have hr : Reads W W.heap.size 1 A S.size (u8s (numsB S)) := by
    have h1 : Reads W W.heap.size 1 A S.size (Lib.strCells S) := Reads.of_own h.own
    rw [show u8s (numsB S) = Lib.strCells S from by simp [numsB, Lib.strCells, u8s]]
    exact h1
  have h2 := run_str_of_reads (P := Tryz.prog) W W.heap.size 23 5 Tryz.underlying23 Tryz.underlying5 A S.size c (numsB S) hr 9 Tryz.underlying9
  rw [h2]
  congr 2
  unfold strOfNums numsB
  apply ByteArray.ext
  simp only [List.map_map]
  rw [show ((fun n : Int => UInt8.ofNat n.toNat) ∘ fun b : UInt8 => (b.toNat : Int)) = id from by funext b; simp, List.map_id, Array.toArray_toList]
end Go.Proofs.YtnkfjileaonemaaGreatDoor
