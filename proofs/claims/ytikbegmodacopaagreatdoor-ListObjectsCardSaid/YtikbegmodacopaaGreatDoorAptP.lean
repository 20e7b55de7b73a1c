/-
  The rows of playpenlaw12.apart. (Printed by gen_apt.py.)
-/
import Derived.Test.YtikbegmodacopaaGreatDoorObK
namespace Go.Proofs.YtikbegmodacopaaGreatDoor
open Go.RowKit Go.PlainAid Go.BigFrame
set_option linter.unusedSimpArgs false
set_option linter.unusedVariables false
set_option maxRecDepth 100000
theorem apl_info : (Tryz.prog.info? 78).map (fun i => (i.zero, i.size, i.bytes)) = some (some (.agg #[.string ⟨#[]⟩, .int .u8 0, .int .u32 0, .bool false]), 4, 32) := by kernel_rfl
theorem apf_info : (Tryz.prog.info? 81).map (fun i => (i.zero, i.size, i.bytes)) = some (some (.agg #[.int .u8 0, .int .u32 0, .string ⟨#[]⟩, .int .u32 0]), 4, 32) := by kernel_rfl
theorem ape_info : (Tryz.prog.info? 83).map (fun i => (i.zero, i.size, i.bytes)) = some (some (.agg #[.string ⟨#[]⟩, .string ⟨#[]⟩]), 2, 32) := by kernel_rfl
def aL (c : ByteArray) (i : Nat) : LabV := ⟨c, 0, (i : Int), false⟩
def aF (c : ByteArray) (i : Nat) : FixV := ⟨0, (i : Int), c, 0⟩
def aE (c : ByteArray) (i : Nat) : EntV := ⟨c, ⟨#[]⟩⟩
def rowLb (s : SL) (n : Nat) (X : List LabV) : Ro := ⟨78, 4, .slice s.A n s.c, n, X.flatMap lE⟩
def rowFx (s : SL) (n : Nat) (X : List FixV) : Ro := ⟨81, 4, .slice s.A n s.c, n, X.flatMap fE⟩
def rowEn (s : SL) (n : Nat) (X : List EntV) : Ro := ⟨83, 2, .slice s.A n s.c, n, X.flatMap eE⟩
/-- the six lists, and both boxes -/
def apT (y : ObjV) (s s' : ObjS) (b : Nat) (r0 r1 r2 r3 r4 r5 : Ro) (ex : List Ro) : List Ro := r0 :: r1 :: r2 :: r3 :: r4 :: r5 :: ⟨36, 1, .slice (some ⟨b, 0, none⟩) 8 8, 8, (objV y s).toList⟩ :: ⟨36, 1, .slice (some ⟨b + 1, 0, none⟩) 8 8, 8, (objV y s').toList⟩ :: ex
theorem apT_box {W : World} {B b : Nat} {y : ObjV} {s s' : ObjS} {r0 r1 r2 r3 r4 r5 : Ro} {ex : List Ro} (h : Owns W B (apT y s s' b r0 r1 r2 r3 r4 r5 ex)) :
    (W.cell? ⟨b, 4, none⟩ = some (.slice s.l.A y.labels.length s.l.c) ∧ W.cell? ⟨b, 5, none⟩ = some (.slice s.f.A y.fixes.length s.f.c) ∧ W.cell? ⟨b, 7, none⟩ = some (.slice s.e.A y.entries.length s.e.c) ∧
    W.cell? ⟨b + 1, 4, none⟩ = some (.slice s'.l.A y.labels.length s'.l.c) ∧ W.cell? ⟨b + 1, 5, none⟩ = some (.slice s'.f.A y.fixes.length s'.f.c) ∧ W.cell? ⟨b + 1, 7, none⟩ = some (.slice s'.e.A y.entries.length s'.e.c)) ∧ b < W.heap.size ∧ b + 1 < W.heap.size :=
  ⟨⟨h.cell (i := 6) (j := 4) rfl rfl, h.cell (i := 6) (j := 5) rfl rfl, h.cell (i := 6) (j := 7) rfl rfl, h.cell (i := 7) (j := 4) rfl rfl, h.cell (i := 7) (j := 5) rfl rfl, h.cell (i := 7) (j := 7) rfl rfl⟩, (h.base (i := 6) rfl).2, (h.base (i := 7) rfl).2⟩
theorem apT_start {w : World} {B : Nat} {y : ObjV} {s s' : ObjS} {r0 r1 r2 r3 r4 r5 : Ro} (h : Owns w B [r0, r1, r2, r3, r4, r5]) (hB : B ≤ w.heap.size) : Owns ((w.alloc (.cells (objV y s) 36)).alloc (.cells (objV y s') 36)) B (apT y s s' w.heap.size r0 r1 r2 r3 r4 r5 []) := by
  have h1 := h.box 36 (objV y s) hB (by simp [maxLen, objV])
  have h2 := h1.box 36 (objV y s') (by simp; omega) (by simp [maxLen, objV])
  rw [World.size_alloc] at h2
  exact h2
theorem some_row {w : World} {B n c size : Nat} {e : TypeId} {A : Option Addr} {xs : List Value} (h : w.ownsRow B e size (.slice A n c) n xs) : 0 < n → ∃ g, A = some ⟨g, 0, none⟩ := fun hn => by
  obtain ⟨g, c', hv⟩ := ownsRow_some h hn
  injection hv with h1
  exact ⟨g, h1⟩
theorem last_cell {α : Type} {enc : α → List Value} {K n p : Nat} (hK : ∀ a, (enc a).length = K) (f : Nat → α) (ys : List Value) {u : Value} (hu : ys[p]? = some u) : ((ovl f n).flatMap enc ++ ys)[n * K + p]? = some u := by
  rw [List.getElem?_append_right (by rw [enc_len hK, ovl_len]; omega), enc_len hK, ovl_len, Nat.add_sub_cancel_left]
  exact hu
theorem ovl_get {α : Type} {enc : α → List Value} {K n p j : Nat} (hK : ∀ a, (enc a).length = K) (f : Nat → α) (hj : j < n) {u : Value} (hu : (enc (f j))[p]? = some u) : ((ovl f n).flatMap enc)[j * K + p]? = some u :=
  enc_get hK _ j (f j) (by simp [ovl, hj]) p u hu
end Go.Proofs.YtikbegmodacopaaGreatDoor
