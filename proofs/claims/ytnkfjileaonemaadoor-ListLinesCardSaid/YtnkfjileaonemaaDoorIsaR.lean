/-
  The document's table of operations: word and Info.
-/
import Derived.Test.YtnkfjileaonemaaDoorIsaC
namespace Go.Proofs.YtnkfjileaonemaaDoor
open Go.RowKit
set_option linter.unusedSimpArgs false
set_option linter.unusedVariables false
theorem wpList_built {P : Program} {ops : Array Oper} {rest : List Oper} {o : Oper} {a : Act} {w : World} {Q : Exit → Act → World → Prop} (hg : o.guard = none) (t : TypeId) (parts : Array (Nat × Operand)) (ho : o.op = .build t parts) (cs : Array Value)
    (hb : P.built t (parts.map fun (i, x) => (i, a.eval x)).toList = some cs) (h : wpList P ops Q rest (a.put o.dst (.agg cs)) w) : wpList P ops Q (o :: rest) a w :=
  wpList_build hg t parts ho (by rw [hb]; rfl) (by rw [hb]; exact h)
def wordsC : Array Value := (opRows.map fun r => Value.string ⟨r.w.toArray⟩).toArray
theorem wordsC_get {k : Nat} (hk : k < 60) : wordsC[k]? = some (.string ⟨(opRow k).w.toArray⟩) := by
  have h : opRows[k]? = some (opRow k) := by
    unfold opRow
    rw [List.getD_eq_getElem?_getD, List.getElem?_eq_getElem (by rw [opRows_len]; exact hk)]
    rfl
  simp [wordsC, h]
theorem wordsC_one : wordsC.all (·.oneCell') = true := by kernel_rfl
theorem wordsC_info : (Tryd.prog.info? 57).map (·.size) = some wordsC.size := by kernel_rfl
def zW : Array Value := Array.replicate 60 (.string ⟨#[]⟩)
theorem zW_zero (w : World) : (zeroValue 57).run Tryd.prog w = .ok (.agg zW) w := by kernel_rfl
theorem zW_size : zW.size = wordsC.size := by kernel_rfl
set_option maxHeartbeats 4000000 in
theorem word_any (k : Nat) (h1 : 1 ≤ k) (h2 : k ≤ 59) (w : World) : Calls Tryd.prog 16 #[.int .i64 k] w fun e w' => e = .returned (.string ⟨(opRow k).w.toArray⟩) ∧ Below w.heap.size w w' := by
  have hz := zW_zero
  have d1 : decide (k < 1) = false := by simp; omega
  have d2 : decide ((59 : Int) < (k : Int)) = false := by simp; omega
  have d3 : decide ((k : Int) < 1) = false := by simp; omega
  have hg := heap_alloc_new w (.cells zW 57)
  have hc : ((w.alloc (.cells zW 57)).setRow w.heap.size wordsC).cell? ⟨w.heap.size, k, none⟩ = some (.string ⟨(opRow k).w.toArray⟩) := (cell_setRow_same _ _ _ zW wordsC _ _ hg).trans (wordsC_get (by omega))
  have HG := hide_ hg
  clear hg
  go_enter Tryd.func16, Tryd.ntmps16
  go_wp2_with (first | (refine wpList_built rfl 57 _ rfl wordsC (by kernel_rfl) ?_) | (with_reducible refine wpList_store_row rfl 57 (.tmp 3) (.tmp 4) rfl _ wordsC rfl rfl 57 zW HG.out wordsC_info zW_size wordsC_one ?_))
  go_ret
  exact ⟨rfl, below_setRow ((Below.refl _ _).alloc (Nat.le_refl _) _) (Nat.le_refl _) _⟩
theorem info_kept {w w1 : World} (hb : Below (w.alloc (.cells zRow.toArray 33)).heap.size (w.alloc (.cells zRow.toArray 33)) w1) : Hid (∀ o, (w1.alloc o).heap[w.heap.size]? = some (.cells zRow.toArray 33 (0, 0))) :=
  hide_ (fun o => by
    have hs := hb.size
    simp at hs
    rw [heap_alloc_old _ _ (by omega), hb.block _ (by simp)]
    exact heap_alloc_new w _)
end Go.Proofs.YtnkfjileaonemaaDoor
