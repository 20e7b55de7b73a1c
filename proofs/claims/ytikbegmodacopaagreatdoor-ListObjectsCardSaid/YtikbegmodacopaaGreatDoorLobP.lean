/-
  ListObjects: rows of what was lent and answered, turned for the calls that follow (no walk).
-/
import Derived.Test.YtikbegmodacopaaGreatDoorObQ
import Derived.Test.YtikbegmodacopaaGreatDoorLndP
import Derived.Test.YtikbegmodacopaaGreatDoorAptP
import Derived.Test.YtikbegmodacopaaGreatDoorAgT
namespace Go.Proofs.YtikbegmodacopaaGreatDoor
open Go.RowKit Go.PlainAid Go.BigFrame
set_option linter.unusedSimpArgs false
set_option linter.unusedVariables false
set_option maxRecDepth 100000
theorem exp_eq (w : World) (s : ByteArray) (a : Int) : (binOp .neq 44 (.agg #[.string s, .int .u32 a]) (.agg #[.string s, .int .u32 a])).run Tryz.prog w = .ok (.bool false) w := by
  rw [run_neq_struct, run_equalIn_agg _ _ _ _ _ (by kernel_rfl) (by kernel_rfl)]
  have h := @Tryz.underlying44
  simp only [go_sem, h]
  simp
  go_simp
theorem lR_img {W : World} {B : Nat} {x : ImgV} {s : ImgS} {ex : List Ro} (h : Owns W B (lRows x s ++ ex)) : ImgR W W.heap.size x s := by
  have r0 := Reads.of_owns (i := 0) h rfl
  have r1 := Reads.of_owns (i := 1) h rfl
  have r2 := Reads.of_owns (i := 2) h rfl
  have r3 := Reads.of_owns (i := 3) h rfl
  have k0 := own_cap (h.at_ (i := 0) rfl)
  have k1 := own_cap (h.at_ (i := 1) rfl)
  have k2 := own_cap (h.at_ (i := 2) rfl)
  have k3 := own_cap (h.at_ (i := 3) rfl)
  rw [List.flatMap_append] at r0 r3
  rw [u32s_appW] at r1
  rw [u8s_append] at r2
  exact ⟨r0.pre (by rw [enc_len cE_len]), r1.pre (by simp [u32s]), r2.pre (by simp [u8s]), r3.pre (by rw [enc_len xE_len]), Nat.le_trans (Nat.le_add_right _ _) k0, Nat.le_trans (Nat.le_add_right _ _) k1, Nat.le_trans (Nat.le_add_right _ _) k2, Nat.le_trans (Nat.le_add_right _ _) k3⟩
/-- an object's box -/
def boxR (g : Nat) (y : ObjV) (s : ObjS) : Ro := ⟨36, 1, .slice (some ⟨g, 0, none⟩) 8 8, 8, (objV y s).toList⟩
theorem Owns.boxO {W : World} {B : Nat} {rs : List Ro} (h : Owns W B rs) (y : ObjV) (s : ObjS) (hB : B ≤ W.heap.size) : Owns (W.alloc (.cells (objV y s) 36)) B (rs ++ [boxR W.heap.size y s]) := h.box 36 (objV y s) hB (by simp [maxLen, objV])
theorem boxR_cells {W : World} {B i g : Nat} {rs : List Ro} {y : ObjV} {s : ObjS} (h : Owns W B rs) (hr : rs[i]? = some (boxR g y s)) :
    (W.cell? ⟨g, 0, none⟩ = some (.slice s.c.A y.code.length s.c.c) ∧ W.cell? ⟨g, 1, none⟩ = some (.slice s.d.A y.data.length s.d.c) ∧ W.cell? ⟨g, 2, none⟩ = some (.int .u32 y.zero) ∧ W.cell? ⟨g, 3, none⟩ = some (.int .u32 y.stack) ∧
    W.cell? ⟨g, 4, none⟩ = some (.slice s.l.A y.labels.length s.l.c) ∧ W.cell? ⟨g, 5, none⟩ = some (.slice s.f.A y.fixes.length s.f.c) ∧ W.cell? ⟨g, 6, none⟩ = some (.slice s.t.A y.targets.length s.t.c) ∧ W.cell? ⟨g, 7, none⟩ = some (.slice s.e.A y.entries.length s.e.c)) ∧ g < W.heap.size :=
  ⟨⟨h.cell (j := 0) hr rfl, h.cell (j := 1) hr rfl, h.cell (j := 2) hr rfl, h.cell (j := 3) hr rfl, h.cell (j := 4) hr rfl, h.cell (j := 5) hr rfl, h.cell (j := 6) hr rfl, h.cell (j := 7) hr rfl⟩, (h.base hr).2⟩
theorem u8s_bE (l : List Int) : u8s l = l.flatMap bE := List.map_eq_flatMap ..
theorem strV_sE (l : List ByteArray) : strV l = l.flatMap sE := List.map_eq_flatMap ..
def two (a b : Value) (j : Nat) : Value := if j = 0 then a else b
def rowC (y : ObjV) (s : ObjS) : Ro := ⟨66, 2, .slice s.c.A y.code.length s.c.c, y.code.length, y.code.flatMap cE⟩
def rowD (y : ObjV) (s : ObjS) : Ro := ⟨5, 1, .slice s.d.A y.data.length s.d.c, y.data.length, y.data.flatMap bE⟩
def rowT (y : ObjV) (s : ObjS) : Ro := ⟨9, 1, .slice s.t.A y.targets.length s.t.c, y.targets.length, y.targets.flatMap sE⟩
theorem ownO_rows (y : ObjV) (s : ObjS) : ownO y s = [rowC y s, rowD y s, rowT y s, rowLb s.l y.labels.length y.labels, rowFx s.f y.fixes.length y.fixes, rowEn s.e y.entries.length y.entries] := by
  unfold ownO rowD rowT
  rw [u8s_bE, strV_sE]
  rfl
/-- both objects' rows, list beside list, and both boxes -/
def pairR (y : ObjV) (s s' : ObjS) (g g' : Nat) : List Ro := [rowC y s, rowC y s', rowD y s, rowD y s', rowT y s, rowT y s', rowLb s.l y.labels.length y.labels, rowLb s'.l y.labels.length y.labels, rowFx s.f y.fixes.length y.fixes, rowFx s'.f y.fixes.length y.fixes, rowEn s.e y.entries.length y.entries, rowEn s'.e y.entries.length y.entries, boxR g y s, boxR g' y s']
theorem pick14 {W : World} {B : Nat} {l : List Ro} {oC oD oT oL oF oE ob pC pD pT pL pF pE pb : Ro} {d : List Ro} (h : Owns W B (l ++ ([oC, oD, oT, oL, oF, oE] ++ [ob] ++ [pC, pD, pT, pL, pF, pE] ++ [pb] ++ d))) : Owns W B [oC, pC, oD, pD, oT, pT, oL, pL, oF, pF, oE, pE, ob, pb] :=
  h.pick (l ++ d) fun cnt one k1 k2 k3 => by simp only [k1, k2, k3]; omega
/-- what was answered, thrice, with the boxes -/
def restR (y : ObjV) (so sp sw : ObjS) (go gp gw : Nat) : List Ro := ownO y so ++ [boxR go y so] ++ ownO y sp ++ [boxR gp y sp] ++ (ownO y sw ++ [boxR gw y sw])
theorem rest_pair {W : World} {B : Nat} {l : List Ro} {y : ObjV} {so sp sw : ObjS} {go gp gw : Nat} (h : Owns W B (l ++ restR y so sp sw go gp gw)) : Owns W B (pairR y so sp go gp) := by
  unfold restR at h
  rw [ownO_rows, ownO_rows] at h
  exact pick14 h
theorem rest_R {W : World} {B : Nat} {l : List Ro} {y : ObjV} {so sp sw : ObjS} {go gp gw : Nat} (h : Owns W B (l ++ restR y so sp sw go gp gw)) : ObjR W W.heap.size y so ∧ ObjR W W.heap.size y sp ∧ ObjR W W.heap.size y sw :=
  ⟨objR_own (h.sub (((((List.sublist_append_left (ownO y so) [boxR go y so]).trans (List.sublist_append_left _ (ownO y sp))).trans (List.sublist_append_left _ [boxR gp y sp])).trans (List.sublist_append_left _ _)).trans (List.sublist_append_right l _))),
   objR_own (h.sub ((((List.sublist_append_right (ownO y so ++ [boxR go y so]) (ownO y sp)).trans (List.sublist_append_left _ [boxR gp y sp])).trans (List.sublist_append_left _ _)).trans (List.sublist_append_right l _))),
   objR_own (h.sub (((List.sublist_append_left (ownO y sw) [boxR gw y sw]).trans (List.sublist_append_right _ _)).trans (List.sublist_append_right l _)))⟩
theorem rest_boxes {W : World} {B : Nat} {r0 r1 r2 r3 : Ro} {y : ObjV} {so sp sw : ObjS} {go gp gw : Nat} (h : Owns W B ([r0, r1, r2, r3] ++ restR y so sp sw go gp gw)) :
    ((W.cell? ⟨go, 0, none⟩ = some (.slice so.c.A y.code.length so.c.c) ∧ W.cell? ⟨go, 1, none⟩ = some (.slice so.d.A y.data.length so.d.c) ∧ W.cell? ⟨go, 2, none⟩ = some (.int .u32 y.zero) ∧ W.cell? ⟨go, 3, none⟩ = some (.int .u32 y.stack) ∧
    W.cell? ⟨go, 4, none⟩ = some (.slice so.l.A y.labels.length so.l.c) ∧ W.cell? ⟨go, 5, none⟩ = some (.slice so.f.A y.fixes.length so.f.c) ∧ W.cell? ⟨go, 6, none⟩ = some (.slice so.t.A y.targets.length so.t.c) ∧ W.cell? ⟨go, 7, none⟩ = some (.slice so.e.A y.entries.length so.e.c)) ∧ go < W.heap.size) ∧
    ((W.cell? ⟨gp, 0, none⟩ = some (.slice sp.c.A y.code.length sp.c.c) ∧ W.cell? ⟨gp, 1, none⟩ = some (.slice sp.d.A y.data.length sp.d.c) ∧ W.cell? ⟨gp, 2, none⟩ = some (.int .u32 y.zero) ∧ W.cell? ⟨gp, 3, none⟩ = some (.int .u32 y.stack) ∧
    W.cell? ⟨gp, 4, none⟩ = some (.slice sp.l.A y.labels.length sp.l.c) ∧ W.cell? ⟨gp, 5, none⟩ = some (.slice sp.f.A y.fixes.length sp.f.c) ∧ W.cell? ⟨gp, 6, none⟩ = some (.slice sp.t.A y.targets.length sp.t.c) ∧ W.cell? ⟨gp, 7, none⟩ = some (.slice sp.e.A y.entries.length sp.e.c)) ∧ gp < W.heap.size) ∧
    ((W.cell? ⟨gw, 0, none⟩ = some (.slice sw.c.A y.code.length sw.c.c) ∧ W.cell? ⟨gw, 1, none⟩ = some (.slice sw.d.A y.data.length sw.d.c) ∧ W.cell? ⟨gw, 2, none⟩ = some (.int .u32 y.zero) ∧ W.cell? ⟨gw, 3, none⟩ = some (.int .u32 y.stack) ∧
    W.cell? ⟨gw, 4, none⟩ = some (.slice sw.l.A y.labels.length sw.l.c) ∧ W.cell? ⟨gw, 5, none⟩ = some (.slice sw.f.A y.fixes.length sw.f.c) ∧ W.cell? ⟨gw, 6, none⟩ = some (.slice sw.t.A y.targets.length sw.t.c) ∧ W.cell? ⟨gw, 7, none⟩ = some (.slice sw.e.A y.entries.length sw.e.c)) ∧ gw < W.heap.size) :=
  ⟨boxR_cells (i := 10) h rfl, boxR_cells (i := 17) h rfl, boxR_cells (i := 24) h rfl⟩
theorem ls_in {W : World} {B : Nat} {a b c : Ro} {rest : List Ro} (h : Owns W B (a :: b :: rest ++ [c])) : Owns W B (a :: b :: c :: rest) := h.swap (((List.perm_append_singleton c rest).cons b).cons a)
/-- the rows for the kit's walks of two lists -/
theorem two_in {α : Type} {enc : α → List Value} {S : Nat} {E L : TypeId} {W : World} {B n : Nat} {rest : List Ro} {a b : Value} {X : List α} (h : Owns W B (⟨E, S, a, n, X.flatMap enc⟩ :: ⟨E, S, b, n, X.flatMap enc⟩ :: rest)) (hB : B ≤ W.heap.size) :
    Owns (W.alloc (.cells #[a, b] L)) B (rowsF 2 (rowB enc S E (two a b) (fun _ => n) (fun _ => X)) ++ lsRow L (some ⟨W.heap.size, 0, none⟩) 2 2 (two a b) :: rest) := by
  have h1 := h.box L #[a, b] hB (by simp [maxLen])
  exact ls_in h1
end Go.Proofs.YtikbegmodacopaaGreatDoor
