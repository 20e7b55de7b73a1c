import Derived.Test.YtnkfjileaonemaaGreatDoorSeeO
import Derived.Test.YtnkfjileaonemaaGreatDoorBuilder
import Derived.Laws.StructEq
import Derived.Test.YtnkfjileaonemaaGreatDoorPrQ
import Derived.Test.YtnkfjileaonemaaGreatDoorAChk
import Derived.Test.YtnkfjileaonemaaGreatDoorARChk
import Derived.Test.YtnkfjileaonemaaGreatDoorPrT
import Derived.Test.YtnkfjileaonemaaGreatDoorRows
/-
  What the kit writes over a list: OverCode, OverBytes, OverTexts.
-/
namespace Go.Proofs.YtnkfjileaonemaaGreatDoor
open Go.RowKit Go.PlainAid Go.BigFrame
set_option linter.unusedSimpArgs false
set_option linter.unusedVariables false
set_option maxRecDepth 100000
theorem set_at {rs : List Ro} {i : Nat} {r0 : Ro} (h : rs[i]? = some r0) (r : Ro) : (rs.set i r)[i]? = some r := by
  have h1 := (List.getElem?_eq_some_iff.1 h).1
  rw [List.getElem?_set, if_pos rfl, if_pos h1]
theorem set_same {rs : List Ro} {i : Nat} {r : Ro} (h : rs[i]? = some r) : rs.set i r = rs := by
  apply List.ext_getElem?
  intro j
  rw [List.getElem?_set]
  split
  · rename_i e
    subst e
    rw [if_pos (List.getElem?_eq_some_iff.1 h).1, h]
  · rfl
def ovl {α : Type} (f : Nat → α) (n : Nat) : List α := (List.range n).map f
theorem ovl_len {α : Type} (f : Nat → α) (n : Nat) : (ovl f n).length = n := by simp [ovl]
theorem ovl_set {α : Type} (f : Nat → α) (xs : List α) {j : Nat} (h : j < xs.length) : (ovl f j ++ xs.drop j).set j (f j) = ovl f (j + 1) ++ xs.drop (j + 1) := by
  rw [List.set_append_right _ _ (by rw [ovl_len]; exact Nat.le_refl _), ovl_len, Nat.sub_self, List.drop_eq_getElem_cons h, List.set_cons_zero]
  simp [ovl, List.range_succ]
theorem ovl_lt {α : Type} (f : Nat → α) (xs : List α) {j : Nat} (h : j < xs.length) : j < (ovl f j ++ xs.drop j).length := by
  rw [List.length_append, ovl_len, List.length_drop]; omega
theorem flat_set2 {α : Type} {enc : α → List Value} (hK : ∀ a, (enc a).length = 2) {u v : Value} {m : α} (hm : enc m = [u, v]) : ∀ (l : List α) (j : Nat), j < l.length → ((l.flatMap enc).set (j * 2) u).set (j * 2 + 1) v = (l.set j m).flatMap enc
  | [], j, h => by simp at h
  | x :: l, 0, _ => by
    have h2 := hK x
    match hx : enc x, h2 with
    | [p, q], _ => simp [hx, hm]
  | x :: l, j + 1, h => by
    have h2 := hK x
    have ih := flat_set2 hK hm l j (by simpa using h)
    rw [List.flatMap_cons, List.set_append_right _ _ (by rw [h2]; omega), List.set_append_right _ _ (by rw [h2]; omega), h2, show (j + 1) * 2 - 2 = j * 2 by omega, show (j + 1) * 2 + 1 - 2 = j * 2 + 1 by omega, ih]
    rfl
theorem flat_set4 {α : Type} {enc : α → List Value} (hK : ∀ a, (enc a).length = 4) {u v y z : Value} {m : α} (hm : enc m = [u, v, y, z]) : ∀ (l : List α) (j : Nat), j < l.length → ((((l.flatMap enc).set (j * 4) u).set (j * 4 + 1) v).set (j * 4 + 2) y).set (j * 4 + 3) z = (l.set j m).flatMap enc
  | [], j, h => by simp at h
  | x :: l, 0, _ => by
    have h2 := hK x
    match hx : enc x, h2 with
    | [p, q, r, s], _ => simp [hx, hm]
  | x :: l, j + 1, h => by
    have h2 := hK x
    have ih := flat_set4 hK hm l j (by simpa using h)
    rw [List.flatMap_cons, List.set_append_right _ _ (by rw [h2]; omega), List.set_append_right _ _ (by rw [h2]; omega), List.set_append_right _ _ (by rw [h2]; omega), List.set_append_right _ _ (by rw [h2]; omega), h2, show (j + 1) * 4 - 4 = j * 4 by omega, show (j + 1) * 4 + 1 - 4 = j * 4 + 1 by omega, show (j + 1) * 4 + 2 - 4 = j * 4 + 2 by omega, show (j + 1) * 4 + 3 - 4 = j * 4 + 3 by omega, ih]
    rfl
section
variable {W : World} {B i g n c j : Nat} {rs : List Ro} {t : TypeId}
theorem put1 {α : Type} {f : α → Value} {X : List α} (h : Owns W B rs) (hr : rs[i]? = some ⟨t, 1, .slice (some ⟨g, 0, none⟩) n c, n, X.map f⟩) (hj : j < X.length) (m : α) :
    Owns (W.setCell ⟨g, j, none⟩ (f m)) B (rs.set i ⟨t, 1, .slice (some ⟨g, 0, none⟩) n c, n, (X.set j m).map f⟩) := by
  have h1 := h.store hr (j := j) (by rw [List.length_map]; exact hj) (f m)
  rw [← List.map_set] at h1
  exact h1
theorem put2 {α : Type} {enc : α → List Value} {X : List α} (hK : ∀ a, (enc a).length = 2) (h : Owns W B rs) (hr : rs[i]? = some ⟨t, 2, .slice (some ⟨g, 0, none⟩) n c, n, X.flatMap enc⟩) (hj : j < X.length) {m : α} {u v : Value} (hm : enc m = [u, v]) :
    Owns ((W.setCell ⟨g, j * 2, none⟩ u).setCell ⟨g, j * 2 + 1, none⟩ v) B (rs.set i ⟨t, 2, .slice (some ⟨g, 0, none⟩) n c, n, (X.set j m).flatMap enc⟩) := by
  have hl : (X.flatMap enc).length = X.length * 2 := enc_len hK X
  have h1 := h.store hr (j := j * 2) (by omega) u
  have h2 := h1.store (set_at hr _) (j := j * 2 + 1) (by rw [List.length_set]; omega) v
  rw [List.set_set, flat_set2 hK hm X j hj] at h2
  exact h2
theorem put4 {α : Type} {enc : α → List Value} {X : List α} (hK : ∀ a, (enc a).length = 4) (h : Owns W B rs) (hr : rs[i]? = some ⟨t, 4, .slice (some ⟨g, 0, none⟩) n c, n, X.flatMap enc⟩) (hj : j < X.length) {m : α} {u v y z : Value} (hm : enc m = [u, v, y, z]) :
    Owns ((((W.setCell ⟨g, j * 4, none⟩ u).setCell ⟨g, j * 4 + 1, none⟩ v).setCell ⟨g, j * 4 + 2, none⟩ y).setCell ⟨g, j * 4 + 3, none⟩ z) B (rs.set i ⟨t, 4, .slice (some ⟨g, 0, none⟩) n c, n, (X.set j m).flatMap enc⟩) := by
  have hl : (X.flatMap enc).length = X.length * 4 := enc_len hK X
  have h1 := h.store hr (j := j * 4) (by omega) u
  have h2 := h1.store (set_at hr _) (j := j * 4 + 1) (by rw [List.length_set]; omega) v
  rw [List.set_set] at h2
  have h3 := h2.store (set_at hr _) (j := j * 4 + 2) (by rw [List.length_set, List.length_set]; omega) y
  rw [List.set_set] at h3
  have h4 := h3.store (set_at hr _) (j := j * 4 + 3) (by rw [List.length_set, List.length_set, List.length_set]; omega) z
  rw [List.set_set, flat_set4 hK hm X j hj] at h4
  exact h4
theorem see {α : Type} {enc : α → List Value} {K : Nat} {X : List α} (hK : ∀ a, (enc a).length = K) (h : Owns W B rs) (hr : rs[i]? = some ⟨t, K, .slice (some ⟨g, 0, none⟩) n c, n, X.flatMap enc⟩) (hj : j < X.length) (k : Nat) (u : Value) (hu : (enc X[j])[k]? = some u) :
    W.cell? ⟨g, j * K + k, none⟩ = some u := h.cell hr (enc_get hK X j _ (List.getElem?_eq_getElem hj) k u hu)
end
def ovCf (i : Nat) : Int × Int := (199, (i : Int))
noncomputable def ovDf (i : Nat) : Int := mk8 (-1) i
def ovTf (i : Nat) : ByteArray := mkS (-1) (i : Nat)
set_option maxHeartbeats 1000000 in
theorem markO_any (i : Nat) (hi : i ≤ 1048640) (w : World) : Calls Tryz.prog 42 #[.int .i64 (-1), .int .i64 i] w fun e w' => e = .returned (.agg #[.int .u8 199, .int .u32 (i : Int)]) ∧ Below w.heap.size w w' := by
  have h1 : IntKind.i64.wrap (0 + (i : Int)) = (i : Int) := by rw [Int.zero_add]; exact IntWalk.i64_in _ (by omega)
  have h2 : IntKind.u32.wrap (i : Int) = (i : Int) := IntWalk.u32_in _ (by omega)
  go_enter Tryz.func42, Tryz.ntmps42
  go_wp2
  exact bodyPost_ret (v := .agg #[.int .u8 199, .int .u32 (i : Int)]) (by simp [results, Tryz.results42, go_sem]) rfl ⟨rfl, (Below.refl _ w).alloc (Nat.le_refl _) _⟩
theorem markB_any (i : Nat) (w : World) : Calls Tryz.prog 43 #[.int .i64 (-1), .int .i64 i] w fun e w' => e = .returned (.int .u8 (ovDf i)) ∧ Below w.heap.size w w' := (markBytes_any (-1) i w).mono fun e w' ⟨h1, h2⟩ => ⟨h1, by rw [← h2]; exact Below.refl _ _⟩
theorem markT_any (i : Nat) (w : World) : Calls Tryz.prog 44 #[.int .i64 (-1), .int .i64 i] w fun e w' => e = .returned (.string (ovTf i)) ∧ Below w.heap.size w w' := markTexts_any (-1) i w
set_option maxHeartbeats 4000000 in
theorem OverCode_any (g n c B i : Nat) (l : List (Int × Int)) (rs : List Ro) (w : World) (hn : n ≤ 1048640) (hl : l.length = n) (hr : rs[i]? = some ⟨52, 2, .slice (some ⟨g, 0, none⟩) n c, n, (l).flatMap cE⟩) (hO : Owns w B rs) (hB : B ≤ w.heap.size) :
    Calls Tryz.prog 39 #[.slice (some ⟨g, 0, none⟩) n c] w fun e w' => e = .returned (.tuple #[]) ∧ Owns w' B (rs.set i ⟨52, 2, .slice (some ⟨g, 0, none⟩) n c, n, (ovl ovCf n).flatMap cE⟩) ∧ Below B w w' := by
  have HL := hide_ hl
  have HR := hide_ hr
  have HBS := hide_ hB
  have HO := hide_ (show Owns w B (rs.set i ⟨52, 2, .slice (some ⟨g, 0, none⟩) n c, n, (ovl ovCf 0 ++ l.drop 0).flatMap cE⟩) by
    rw [show ovl ovCf 0 ++ l.drop 0 = l from rfl, set_same hr]; exact hO)
  clear hl hB hO hr
  go_enter Tryz.func39, Tryz.ntmps39
  go_wp2
  go_loopw [2] (fun i0 wr => ∃ j : Nat, j ≤ n ∧ i0 = .int .i64 j ∧ Hid (Owns wr B (rs.set i ⟨52, 2, .slice (some ⟨g, 0, none⟩) n c, n, (ovl ovCf j ++ l.drop j).flatMap cE⟩)) ∧ Below B w wr) (fun i0 _ => n - (intOf i0).toNat)
  case atStart => exact ⟨0, Nat.zero_le _, rfl, HO, Below.refl _ _⟩
  case round =>
    clear HO
    obtain ⟨j, hj, rfl, HO, hb⟩ := hrel
    have HB := hide_ hb
    have HSZ := hide_ hb.size
    clear hb
    by_cases hlt : j < n
    · obtain ⟨X, hX⟩ : ∃ X, X = ovl ovCf j ++ l.drop j := ⟨_, rfl⟩
      have hjl : j < l.length := by rw [HL.out]; exact hlt
      have hXl : j < X.length := by rw [hX]; exact ovl_lt _ _ hjl
      have hOj := HO.out
      rw [← hX] at hOj
      have hrk := set_at HR.out ⟨52, 2, .slice (some ⟨g, 0, none⟩) n c, n, (X).flatMap cE⟩
      obtain ⟨y0, hy0⟩ : ∃ y, y = X[j].1 := ⟨_, rfl⟩
      have x0 : wr.cell? ⟨g, j * 2, none⟩ = some (.int .u8 y0) := by rw [hy0]; exact see cE_len hOj hrk hXl 0 _ rfl
      have f0 : wr.frozen? ⟨g, j * 2, none⟩ = false := hOj.frozen hrk _
      obtain ⟨y1, hy1⟩ : ∃ y, y = X[j].2 := ⟨_, rfl⟩
      have x1 : wr.cell? ⟨g, j * 2 + 1, none⟩ = some (.int .u32 y1) := by rw [hy1]; exact see cE_len hOj hrk hXl 1 _ rfl
      have f1 : wr.frozen? ⟨g, j * 2 + 1, none⟩ = false := hOj.frozen hrk _
      have hST : ∀ W : World, Owns W B (rs.set i ⟨52, 2, .slice (some ⟨g, 0, none⟩) n c, n, (X).flatMap cE⟩) → Owns ((W.setCell ⟨g, j * 2, none⟩ (.int .u8 199)).setCell ⟨g, j * 2 + 1, none⟩ (.int .u32 (j : Int))) B (rs.set i ⟨52, 2, .slice (some ⟨g, 0, none⟩) n c, n, (ovl ovCf (j + 1) ++ l.drop (j + 1)).flatMap cE⟩) := fun W hW => by
        have h9 := put2 cE_len hW hrk hXl (m := ovCf j) rfl
        rw [List.set_set, hX, ovl_set _ _ hjl] at h9
        exact h9
      have hg1 := (hOj.base hrk).1
      have hg2 := (hOj.base hrk).2
      have HST := hide_ hST
      have HOJ := hide_ hOj
      have HMK := hide_ (fun W => markO_any j (by omega) W)
      clear hST hX hXl hOj hrk HO hjl hy0 hy1
      go_wp2_with fail
      refine (HMK.out _).mono ?_
      rintro e w7 ⟨rfl, hb7⟩
      have q0 := (hb7.cell (p := ⟨g, j * 2, none⟩) hg2).trans x0
      have r0 := (hb7.frozen (p := ⟨g, j * 2, none⟩) hg2).trans f0
      have q1 := (hb7.cell (p := ⟨g, j * 2 + 1, none⟩) hg2).trans x1
      have r1 := (hb7.frozen (p := ⟨g, j * 2 + 1, none⟩) hg2).trans f1
      have HB7 := hide_ hb7
      have HOW := hide_ (HST.out _ (HOJ.out.below hb7))
      clear x0 f0 x1 f1 hb7 HST HOJ
      go_wp2
      go_roundw
      case rel => exact ⟨j + 1, by omega, by go_num, HOW, ((((HB.out).trans (HB7.out.mono (Nat.le_trans HBS.out HSZ.out))).setCell (p := ⟨g, j * 2, none⟩) hg1 _).setCell (p := ⟨g, j * 2 + 1, none⟩) hg1 _)⟩
      case measure => simp [intOf]; omega
    · obtain rfl : j = n := by omega
      have hfl : l.drop j = [] := List.drop_eq_nil_of_le (by rw [HL.out]; exact Nat.le_refl _)
      have hOj := HO.out
      rw [hfl, List.append_nil] at hOj
      have HOJ := hide_ hOj
      clear hfl hOj HO
      go_wp2
      go_end0
      exact ⟨rfl, HOJ.out, HB.out⟩
set_option maxHeartbeats 4000000 in
theorem OverBytesR_any (g n c B i : Nat) (l : List (Int)) (rs : List Ro) (w : World) (hn : n ≤ 1048640) (hl : l.length = n) (hr : rs[i]? = some ⟨5, 1, .slice (some ⟨g, 0, none⟩) n c, n, (l).map (Value.int .u8)⟩) (hO : Owns w B rs) (hB : B ≤ w.heap.size) :
    Calls Tryz.prog 40 #[.slice (some ⟨g, 0, none⟩) n c] w fun e w' => e = .returned (.tuple #[]) ∧ Owns w' B (rs.set i ⟨5, 1, .slice (some ⟨g, 0, none⟩) n c, n, (ovl ovDf n).map (Value.int .u8)⟩) ∧ Below B w w' := by
  have HL := hide_ hl
  have HR := hide_ hr
  have HBS := hide_ hB
  have HO := hide_ (show Owns w B (rs.set i ⟨5, 1, .slice (some ⟨g, 0, none⟩) n c, n, (ovl ovDf 0 ++ l.drop 0).map (Value.int .u8)⟩) by
    rw [show ovl ovDf 0 ++ l.drop 0 = l from rfl, set_same hr]; exact hO)
  clear hl hB hO hr
  go_enter Tryz.func40, Tryz.ntmps40
  go_wp2
  go_loopw [2] (fun i0 wr => ∃ j : Nat, j ≤ n ∧ i0 = .int .i64 j ∧ Hid (Owns wr B (rs.set i ⟨5, 1, .slice (some ⟨g, 0, none⟩) n c, n, (ovl ovDf j ++ l.drop j).map (Value.int .u8)⟩)) ∧ Below B w wr) (fun i0 _ => n - (intOf i0).toNat)
  case atStart => exact ⟨0, Nat.zero_le _, rfl, HO, Below.refl _ _⟩
  case round =>
    clear HO
    obtain ⟨j, hj, rfl, HO, hb⟩ := hrel
    have HB := hide_ hb
    have HSZ := hide_ hb.size
    clear hb
    by_cases hlt : j < n
    · obtain ⟨X, hX⟩ : ∃ X, X = ovl ovDf j ++ l.drop j := ⟨_, rfl⟩
      have hjl : j < l.length := by rw [HL.out]; exact hlt
      have hXl : j < X.length := by rw [hX]; exact ovl_lt _ _ hjl
      have hOj := HO.out
      rw [← hX] at hOj
      have hrk := set_at HR.out ⟨5, 1, .slice (some ⟨g, 0, none⟩) n c, n, (X).map (Value.int .u8)⟩
      obtain ⟨y0, hy0⟩ : ∃ y, y = X[j] := ⟨_, rfl⟩
      have x0 : wr.cell? ⟨g, j, none⟩ = some (.int .u8 y0) := by rw [hy0]; exact hOj.cell hrk (by rw [List.getElem?_map, List.getElem?_eq_getElem hXl]; rfl)
      have f0 : wr.frozen? ⟨g, j, none⟩ = false := hOj.frozen hrk _
      have hST : ∀ W : World, Owns W B (rs.set i ⟨5, 1, .slice (some ⟨g, 0, none⟩) n c, n, (X).map (Value.int .u8)⟩) → Owns (W.setCell ⟨g, j, none⟩ (.int .u8 (ovDf j))) B (rs.set i ⟨5, 1, .slice (some ⟨g, 0, none⟩) n c, n, (ovl ovDf (j + 1) ++ l.drop (j + 1)).map (Value.int .u8)⟩) := fun W hW => by
        have h9 := put1 (f := (Value.int .u8)) hW hrk hXl (ovDf j)
        rw [List.set_set, hX, ovl_set _ _ hjl] at h9
        exact h9
      have hg1 := (hOj.base hrk).1
      have hg2 := (hOj.base hrk).2
      have HST := hide_ hST
      have HOJ := hide_ hOj
      have HMK := hide_ (fun W => markB_any j W)
      obtain ⟨mk, hmk⟩ : ∃ mk, mk = ovDf j := ⟨_, rfl⟩
      rw [← hmk] at HMK HST
      clear hmk
      clear hST hX hXl hOj hrk HO hjl hy0
      go_wp2_with fail
      refine (HMK.out _).mono ?_
      rintro e w7 ⟨rfl, hb7⟩
      have q0 := (hb7.cell (p := ⟨g, j, none⟩) hg2).trans x0
      have r0 := (hb7.frozen (p := ⟨g, j, none⟩) hg2).trans f0
      have HB7 := hide_ hb7
      have HOW := hide_ (HST.out _ (HOJ.out.below hb7))
      clear x0 f0 hb7 HST HOJ
      go_wp2
      go_roundw
      case rel => exact ⟨j + 1, by omega, by go_num, HOW, (((HB.out).trans (HB7.out.mono (Nat.le_trans HBS.out HSZ.out))).setCell (p := ⟨g, j, none⟩) hg1 _)⟩
      case measure => simp [intOf]; omega
    · obtain rfl : j = n := by omega
      have hfl : l.drop j = [] := List.drop_eq_nil_of_le (by rw [HL.out]; exact Nat.le_refl _)
      have hOj := HO.out
      rw [hfl, List.append_nil] at hOj
      have HOJ := hide_ hOj
      clear hfl hOj HO
      go_wp2
      go_end0
      exact ⟨rfl, HOJ.out, HB.out⟩
set_option maxHeartbeats 4000000 in
theorem OverTexts_any (g n c B i : Nat) (l : List (ByteArray)) (rs : List Ro) (w : World) (hn : n ≤ 1048640) (hl : l.length = n) (hr : rs[i]? = some ⟨9, 1, .slice (some ⟨g, 0, none⟩) n c, n, (l).map Value.string⟩) (hO : Owns w B rs) (hB : B ≤ w.heap.size) :
    Calls Tryz.prog 41 #[.slice (some ⟨g, 0, none⟩) n c] w fun e w' => e = .returned (.tuple #[]) ∧ Owns w' B (rs.set i ⟨9, 1, .slice (some ⟨g, 0, none⟩) n c, n, (ovl ovTf n).map Value.string⟩) ∧ Below B w w' := by
  have HL := hide_ hl
  have HR := hide_ hr
  have HBS := hide_ hB
  have HO := hide_ (show Owns w B (rs.set i ⟨9, 1, .slice (some ⟨g, 0, none⟩) n c, n, (ovl ovTf 0 ++ l.drop 0).map Value.string⟩) by
    rw [show ovl ovTf 0 ++ l.drop 0 = l from rfl, set_same hr]; exact hO)
  clear hl hB hO hr
  go_enter Tryz.func41, Tryz.ntmps41
  go_wp2
  go_loopw [2] (fun i0 wr => ∃ j : Nat, j ≤ n ∧ i0 = .int .i64 j ∧ Hid (Owns wr B (rs.set i ⟨9, 1, .slice (some ⟨g, 0, none⟩) n c, n, (ovl ovTf j ++ l.drop j).map Value.string⟩)) ∧ Below B w wr) (fun i0 _ => n - (intOf i0).toNat)
  case atStart => exact ⟨0, Nat.zero_le _, rfl, HO, Below.refl _ _⟩
  case round =>
    clear HO
    obtain ⟨j, hj, rfl, HO, hb⟩ := hrel
    have HB := hide_ hb
    have HSZ := hide_ hb.size
    clear hb
    by_cases hlt : j < n
    · obtain ⟨X, hX⟩ : ∃ X, X = ovl ovTf j ++ l.drop j := ⟨_, rfl⟩
      have hjl : j < l.length := by rw [HL.out]; exact hlt
      have hXl : j < X.length := by rw [hX]; exact ovl_lt _ _ hjl
      have hOj := HO.out
      rw [← hX] at hOj
      have hrk := set_at HR.out ⟨9, 1, .slice (some ⟨g, 0, none⟩) n c, n, (X).map Value.string⟩
      obtain ⟨y0, hy0⟩ : ∃ y, y = X[j] := ⟨_, rfl⟩
      have x0 : wr.cell? ⟨g, j, none⟩ = some (.string y0) := by rw [hy0]; exact hOj.cell hrk (by rw [List.getElem?_map, List.getElem?_eq_getElem hXl]; rfl)
      have f0 : wr.frozen? ⟨g, j, none⟩ = false := hOj.frozen hrk _
      have hST : ∀ W : World, Owns W B (rs.set i ⟨9, 1, .slice (some ⟨g, 0, none⟩) n c, n, (X).map Value.string⟩) → Owns (W.setCell ⟨g, j, none⟩ (.string (ovTf j))) B (rs.set i ⟨9, 1, .slice (some ⟨g, 0, none⟩) n c, n, (ovl ovTf (j + 1) ++ l.drop (j + 1)).map Value.string⟩) := fun W hW => by
        have h9 := put1 (f := Value.string) hW hrk hXl (ovTf j)
        rw [List.set_set, hX, ovl_set _ _ hjl] at h9
        exact h9
      have hg1 := (hOj.base hrk).1
      have hg2 := (hOj.base hrk).2
      have HST := hide_ hST
      have HOJ := hide_ hOj
      have HMK := hide_ (fun W => markT_any j W)
      obtain ⟨mk, hmk⟩ : ∃ mk, mk = ovTf j := ⟨_, rfl⟩
      rw [← hmk] at HMK HST
      clear hmk
      clear hST hX hXl hOj hrk HO hjl hy0
      go_wp2_with fail
      refine (HMK.out _).mono ?_
      rintro e w7 ⟨rfl, hb7⟩
      have q0 := (hb7.cell (p := ⟨g, j, none⟩) hg2).trans x0
      have r0 := (hb7.frozen (p := ⟨g, j, none⟩) hg2).trans f0
      have HB7 := hide_ hb7
      have HOW := hide_ (HST.out _ (HOJ.out.below hb7))
      clear x0 f0 hb7 HST HOJ
      go_wp2
      go_roundw
      case rel => exact ⟨j + 1, by omega, by go_num, HOW, (((HB.out).trans (HB7.out.mono (Nat.le_trans HBS.out HSZ.out))).setCell (p := ⟨g, j, none⟩) hg1 _)⟩
      case measure => simp [intOf]; omega
    · obtain rfl : j = n := by omega
      have hfl : l.drop j = [] := List.drop_eq_nil_of_le (by rw [HL.out]; exact Nat.le_refl _)
      have hOj := HO.out
      rw [hfl, List.append_nil] at hOj
      have HOJ := hide_ hOj
      clear hfl hOj HO
      go_wp2
      go_end0
      exact ⟨rfl, HOJ.out, HB.out⟩
end Go.Proofs.YtnkfjileaonemaaGreatDoor
/-
  OverObject: what the kit writes over an object.
-/
namespace Go.Proofs.YtnkfjileaonemaaGreatDoor
open Go.RowKit Go.PlainAid Go.BigFrame
set_option linter.unusedSimpArgs false
set_option linter.unusedVariables false
set_option maxRecDepth 100000
abbrev Rw (t : TypeId) (k g c n : Nat) (xs : List Value) : Ro := ⟨t, k, .slice (some ⟨g, 0, none⟩) n c, n, xs⟩
abbrev Bx (b : Nat) (z sk : Int) (g0 c0 n g1 c1 nd g2 c2 nt g3 c3 nl g4 c4 nf g5 c5 ne : Nat) : Ro := ⟨30, 1, .slice (some ⟨b, 0, none⟩) 8 8, 8, [.slice (some ⟨g0, 0, none⟩) n c0, .slice (some ⟨g1, 0, none⟩) nd c1, .int .u32 z, .int .u32 sk, .slice (some ⟨g3, 0, none⟩) nl c3, .slice (some ⟨g4, 0, none⟩) nf c4, .slice (some ⟨g2, 0, none⟩) nt c2, .slice (some ⟨g5, 0, none⟩) ne c5]⟩
def overB : ByteArray := ⟨#[111, 118, 101, 114]⟩
def ovLf (_ : Nat) : LabV := ⟨overB, 0, 9, false⟩
def ovFf (_ : Nat) : FixV := ⟨0, 9, overB, 0⟩
def ovEf (_ : Nat) : EntV := ⟨overB, ⟨#[]⟩⟩
theorem six_perm (r0 r1 r2 r3 r4 r5 b : Ro) (ex : List Ro) : ((r0 :: r1 :: r2 :: r3 :: r4 :: r5 :: ex) ++ [b]).Perm (r0 :: r1 :: r2 :: r3 :: r4 :: r5 :: b :: ex) :=
  .cons _ (.cons _ (.cons _ (.cons _ (.cons _ (.cons _ (List.perm_append_comm (l₁ := ex) (l₂ := [b])))))))
theorem six_sub (r0 r1 r2 r3 r4 r5 b : Ro) (ex : List Ro) : (r0 :: r1 :: r2 :: r3 :: r4 :: r5 :: ex).Sublist (r0 :: r1 :: r2 :: r3 :: r4 :: r5 :: b :: ex) :=
  .cons_cons _ (.cons_cons _ (.cons_cons _ (.cons_cons _ (.cons_cons _ (.cons_cons _ (List.sublist_cons_self b ex))))))
set_option maxHeartbeats 8000000 in
theorem OverObject_core (n nd nt nl nf ne g0 c0 g1 c1 g2 c2 g3 c3 g4 c4 g5 c5 B : Nat) (z sk : Int) (lc : List (Int × Int)) (ld : List Int) (lt : List ByteArray) (ll : List LabV) (lf : List FixV) (le : List EntV) (ex : List Ro) (w : World)
    (hn : n ≤ 1048640) (hnd : nd ≤ 1048640) (hnt : nt ≤ 1048640) (hnl : nl ≤ 1048640) (hnf : nf ≤ 1048640) (hne : ne ≤ 1048640)
    (h0 : lc.length = n) (h1 : ld.length = nd) (h2 : lt.length = nt) (h3 : ll.length = nl) (h4 : lf.length = nf) (h5 : le.length = ne) (hO : Owns w B (Rw 52 2 g0 c0 n ((lc).flatMap cE) :: Rw 5 1 g1 c1 nd (u8s (ld)) :: Rw 9 1 g2 c2 nt (strV (lt)) :: Rw 45 4 g3 c3 nl ((ll).flatMap lE) :: Rw 47 4 g4 c4 nf ((lf).flatMap fE) :: Rw 49 2 g5 c5 ne ((le).flatMap eE) :: ex)) (hB : B ≤ w.heap.size) :
    Calls Tryz.prog 11 #[.agg #[.slice (some ⟨g0, 0, none⟩) n c0, .slice (some ⟨g1, 0, none⟩) nd c1, .int .u32 z, .int .u32 sk, .slice (some ⟨g3, 0, none⟩) nl c3, .slice (some ⟨g4, 0, none⟩) nf c4, .slice (some ⟨g2, 0, none⟩) nt c2, .slice (some ⟨g5, 0, none⟩) ne c5]] w fun e w' => e = .returned (.tuple #[]) ∧ Owns w' B (Rw 52 2 g0 c0 n ((ovl ovCf n).flatMap cE) :: Rw 5 1 g1 c1 nd (u8s (ovl ovDf nd)) :: Rw 9 1 g2 c2 nt (strV (ovl ovTf nt)) :: Rw 45 4 g3 c3 nl ((ovl ovLf nl).flatMap lE) :: Rw 47 4 g4 c4 nf ((ovl ovFf nf).flatMap fE) :: Rw 49 2 g5 c5 ne ((ovl ovEf ne).flatMap eE) :: ex) ∧ Below B w w' := by
  obtain ⟨b, hb0⟩ : ∃ b, b = w.heap.size := ⟨_, rfl⟩
  obtain ⟨W1, hW1⟩ : ∃ W, W = w.alloc (.cells #[.slice (some ⟨g0, 0, none⟩) n c0, .slice (some ⟨g1, 0, none⟩) nd c1, .int .u32 z, .int .u32 sk, .slice (some ⟨g3, 0, none⟩) nl c3, .slice (some ⟨g4, 0, none⟩) nf c4, .slice (some ⟨g2, 0, none⟩) nt c2, .slice (some ⟨g5, 0, none⟩) ne c5] 30) := ⟨_, rfl⟩
  have HO1 := hide_ (show Owns W1 B (Rw 52 2 g0 c0 n ((lc).flatMap cE) :: Rw 5 1 g1 c1 nd (u8s (ld)) :: Rw 9 1 g2 c2 nt (strV (lt)) :: Rw 45 4 g3 c3 nl ((ll).flatMap lE) :: Rw 47 4 g4 c4 nf ((lf).flatMap fE) :: Rw 49 2 g5 c5 ne ((le).flatMap eE) :: Bx b z sk g0 c0 n g1 c1 nd g2 c2 nt g3 c3 nl g4 c4 nf g5 c5 ne :: ex) by
    rw [hW1, hb0]
    exact (Owns.box8 ⟨hO, hB⟩ _ _ _ _ _ _ _ _).swap (six_perm _ _ _ _ _ _ _ _))
  have HBS := hide_ (show B ≤ W1.heap.size by rw [hW1]; simp; omega)
  have HB1 := hide_ (show Below B w W1 by rw [hW1]; exact (Below.refl _ _).alloc hB _)
  have H0 := hide_ h0
  have H1 := hide_ h1
  have H2 := hide_ h2
  have H3 := hide_ h3
  have H4 := hide_ h4
  have H5 := hide_ h5
  have HN := hide_ (And.intro hn (And.intro hnd hnt))
  have k0 : W1.cell? ⟨b, 0, none⟩ = some (.slice (some ⟨g0, 0, none⟩) n c0) := HO1.out.cell (i := 6) (j := 0) rfl rfl
  clear h0 h1 h2 h3 h4 h5 hO hB hn hnd hnt
  go_enter Tryz.func11, Tryz.ntmps11
  go_upto_region 1 with (fail)
  rw [← hW1, ← hb0]
  clear hW1 hb0
  go_wp2_with fail
  refine (OverCode_any g0 n c0 B 0 lc _ W1 HN.out.1 H0.out rfl HO1.out HBS.out).mono ?_
  rintro e w2 ⟨rfl, hO2, hb2⟩
  have HO2 := hide_ (show Owns w2 B (Rw 52 2 g0 c0 n ((ovl ovCf n).flatMap cE) :: Rw 5 1 g1 c1 nd (u8s (ld)) :: Rw 9 1 g2 c2 nt (strV (lt)) :: Rw 45 4 g3 c3 nl ((ll).flatMap lE) :: Rw 47 4 g4 c4 nf ((lf).flatMap fE) :: Rw 49 2 g5 c5 ne ((le).flatMap eE) :: Bx b z sk g0 c0 n g1 c1 nd g2 c2 nt g3 c3 nl g4 c4 nf g5 c5 ne :: ex) from hO2)
  have HB2 := hide_ (HB1.out.trans hb2)
  have HBS2 := hide_ (Nat.le_trans HBS.out hb2.size)
  have k1 : w2.cell? ⟨b, 1, none⟩ = some (.slice (some ⟨g1, 0, none⟩) nd c1) := HO2.out.cell (i := 6) (j := 1) rfl rfl
  clear hO2 hb2 HO1 k0 HBS HB1
  go_wp2_with fail
  refine (OverBytesR_any g1 nd c1 B 1 ld _ w2 HN.out.2.1 H1.out rfl HO2.out HBS2.out).mono ?_
  rintro e w3 ⟨rfl, hO3, hb3⟩
  have HO3 := hide_ (show Owns w3 B (Rw 52 2 g0 c0 n ((ovl ovCf n).flatMap cE) :: Rw 5 1 g1 c1 nd (u8s (ovl ovDf nd)) :: Rw 9 1 g2 c2 nt (strV (lt)) :: Rw 45 4 g3 c3 nl ((ll).flatMap lE) :: Rw 47 4 g4 c4 nf ((lf).flatMap fE) :: Rw 49 2 g5 c5 ne ((le).flatMap eE) :: Bx b z sk g0 c0 n g1 c1 nd g2 c2 nt g3 c3 nl g4 c4 nf g5 c5 ne :: ex) from hO3)
  have HB3 := hide_ (HB2.out.trans hb3)
  have HBS3 := hide_ (Nat.le_trans HBS2.out hb3.size)
  have k6 : w3.cell? ⟨b, 6, none⟩ = some (.slice (some ⟨g2, 0, none⟩) nt c2) := HO3.out.cell (i := 6) (j := 6) rfl rfl
  clear hO3 hb3 HO2 k1 HBS2 HB2
  go_wp2_with fail
  refine (OverTexts_any g2 nt c2 B 2 lt _ w3 HN.out.2.2 H2.out rfl HO3.out HBS3.out).mono ?_
  rintro e w4 ⟨rfl, hO4, hb4⟩
  have HO4 := hide_ (show Owns w4 B (Rw 52 2 g0 c0 n ((ovl ovCf n).flatMap cE) :: Rw 5 1 g1 c1 nd (u8s (ovl ovDf nd)) :: Rw 9 1 g2 c2 nt (strV (ovl ovTf nt)) :: Rw 45 4 g3 c3 nl ((ll).flatMap lE) :: Rw 47 4 g4 c4 nf ((lf).flatMap fE) :: Rw 49 2 g5 c5 ne ((le).flatMap eE) :: Bx b z sk g0 c0 n g1 c1 nd g2 c2 nt g3 c3 nl g4 c4 nf g5 c5 ne :: ex) from hO4)
  have HB4 := hide_ (HB3.out.trans hb4)
  clear hO4 hb4 HO3 k6 HBS3 HB3
  go_wp2
  go_loopw [2] (fun i0 wr => ∃ j : Nat, j ≤ nl ∧ i0 = .int .i64 j ∧ Hid (Owns wr B (Rw 52 2 g0 c0 n ((ovl ovCf n).flatMap cE) :: Rw 5 1 g1 c1 nd (u8s (ovl ovDf nd)) :: Rw 9 1 g2 c2 nt (strV (ovl ovTf nt)) :: Rw 45 4 g3 c3 nl ((ovl ovLf j ++ ll.drop j).flatMap lE) :: Rw 47 4 g4 c4 nf ((lf).flatMap fE) :: Rw 49 2 g5 c5 ne ((le).flatMap eE) :: Bx b z sk g0 c0 n g1 c1 nd g2 c2 nt g3 c3 nl g4 c4 nf g5 c5 ne :: ex)) ∧ Below B w wr) (fun i0 _ => nl - (intOf i0).toNat)
  case atStart => exact ⟨0, Nat.zero_le _, rfl, HO4, HB4.out⟩
  case round =>
    clear HO4 HB4
    obtain ⟨j, hj, rfl, HO, hb⟩ := hrel
    have HB := hide_ hb
    clear hb
    have kb : wr.cell? ⟨b, 4, none⟩ = some (.slice (some ⟨g3, 0, none⟩) nl c3) := HO.out.cell (i := 6) (j := 4) rfl rfl
    by_cases hlt : j < nl
    · obtain ⟨X, hX⟩ : ∃ X, X = ovl ovLf j ++ ll.drop j := ⟨_, rfl⟩
      have hjl : j < ll.length := by rw [H3.out]; exact hlt
      have hXl : j < X.length := by rw [hX]; exact ovl_lt _ _ hjl
      have hOj := HO.out
      rw [← hX] at hOj
      obtain ⟨y0, hy0⟩ : ∃ y, y = X[j].name := ⟨_, rfl⟩
      have x0 : wr.cell? ⟨g3, j * 4, none⟩ = some (.string y0) := by rw [hy0]; exact see (i := 3) lE_len hOj rfl hXl 0 _ rfl
      have f0 : wr.frozen? ⟨g3, j * 4, none⟩ = false := hOj.frozen (i := 3) rfl _
      obtain ⟨y1, hy1⟩ : ∃ y, y = X[j].sec := ⟨_, rfl⟩
      have x1 : wr.cell? ⟨g3, j * 4 + 1, none⟩ = some (.int .u8 y1) := by rw [hy1]; exact see (i := 3) lE_len hOj rfl hXl 1 _ rfl
      have f1 : wr.frozen? ⟨g3, j * 4 + 1, none⟩ = false := hOj.frozen (i := 3) rfl _
      obtain ⟨y2, hy2⟩ : ∃ y, y = X[j].at_ := ⟨_, rfl⟩
      have x2 : wr.cell? ⟨g3, j * 4 + 2, none⟩ = some (.int .u32 y2) := by rw [hy2]; exact see (i := 3) lE_len hOj rfl hXl 2 _ rfl
      have f2 : wr.frozen? ⟨g3, j * 4 + 2, none⟩ = false := hOj.frozen (i := 3) rfl _
      obtain ⟨y3, hy3⟩ : ∃ y, y = X[j].opn := ⟨_, rfl⟩
      have x3 : wr.cell? ⟨g3, j * 4 + 3, none⟩ = some (.bool y3) := by rw [hy3]; exact see (i := 3) lE_len hOj rfl hXl 3 _ rfl
      have f3 : wr.frozen? ⟨g3, j * 4 + 3, none⟩ = false := hOj.frozen (i := 3) rfl _
      have HOW := hide_ (show Owns ((((wr.setCell ⟨g3, j * 4, none⟩ (.string ⟨#[111, 118, 101, 114]⟩)).setCell ⟨g3, j * 4 + 1, none⟩ (.int .u8 0)).setCell ⟨g3, j * 4 + 2, none⟩ (.int .u32 9)).setCell ⟨g3, j * 4 + 3, none⟩ (.bool false)) B (Rw 52 2 g0 c0 n ((ovl ovCf n).flatMap cE) :: Rw 5 1 g1 c1 nd (u8s (ovl ovDf nd)) :: Rw 9 1 g2 c2 nt (strV (ovl ovTf nt)) :: Rw 45 4 g3 c3 nl ((ovl ovLf (j + 1) ++ ll.drop (j + 1)).flatMap lE) :: Rw 47 4 g4 c4 nf ((lf).flatMap fE) :: Rw 49 2 g5 c5 ne ((le).flatMap eE) :: Bx b z sk g0 c0 n g1 c1 nd g2 c2 nt g3 c3 nl g4 c4 nf g5 c5 ne :: ex) by
        have h9 := put4 (i := 3) lE_len hOj rfl hXl (m := ovLf j) rfl
        rw [hX, ovl_set _ _ hjl] at h9
        exact h9)
      have hg1 := (hOj.base (i := 3) rfl).1
      have hg2 := (hOj.base (i := 3) rfl).2
      clear hX hXl hOj HO hjl hy0 hy1 hy2 hy3
      go_wp2
      go_roundw
      case rel => exact ⟨j + 1, by omega, by go_num, HOW, ((((HB.out.setCell (p := ⟨g3, j * 4, none⟩) hg1 _).setCell (p := ⟨g3, j * 4 + 1, none⟩) hg1 _).setCell (p := ⟨g3, j * 4 + 2, none⟩) hg1 _).setCell (p := ⟨g3, j * 4 + 3, none⟩) hg1 _)⟩
      case measure => simp [intOf]; omega
    · have hjn : j = nl := by omega
      subst j
      clear hlt hj
      have hfl : ll.drop nl = [] := List.drop_eq_nil_of_le (by rw [H3.out]; exact Nat.le_refl _)
      have hOj := HO.out
      rw [hfl, List.append_nil] at hOj
      have HO5 := hide_ hOj
      have HB5 := HB
      clear hfl hOj HO HB
      go_wp2
      go_loopw [3] (fun i0 wr => ∃ j : Nat, j ≤ nf ∧ i0 = .int .i64 j ∧ Hid (Owns wr B (Rw 52 2 g0 c0 n ((ovl ovCf n).flatMap cE) :: Rw 5 1 g1 c1 nd (u8s (ovl ovDf nd)) :: Rw 9 1 g2 c2 nt (strV (ovl ovTf nt)) :: Rw 45 4 g3 c3 nl ((ovl ovLf nl).flatMap lE) :: Rw 47 4 g4 c4 nf ((ovl ovFf j ++ lf.drop j).flatMap fE) :: Rw 49 2 g5 c5 ne ((le).flatMap eE) :: Bx b z sk g0 c0 n g1 c1 nd g2 c2 nt g3 c3 nl g4 c4 nf g5 c5 ne :: ex)) ∧ Below B w wr) (fun i0 _ => nf - (intOf i0).toNat)
      case atStart => exact ⟨0, Nat.zero_le _, rfl, HO5, HB5.out⟩
      case round =>
        clear HO5 HB5
        obtain ⟨j, hj, rfl, HO, hb⟩ := hrel
        have HB := hide_ hb
        clear hb
        have kb : wr.cell? ⟨b, 5, none⟩ = some (.slice (some ⟨g4, 0, none⟩) nf c4) := HO.out.cell (i := 6) (j := 5) rfl rfl
        by_cases hlt : j < nf
        · obtain ⟨X, hX⟩ : ∃ X, X = ovl ovFf j ++ lf.drop j := ⟨_, rfl⟩
          have hjl : j < lf.length := by rw [H4.out]; exact hlt
          have hXl : j < X.length := by rw [hX]; exact ovl_lt _ _ hjl
          have hOj := HO.out
          rw [← hX] at hOj
          obtain ⟨y0, hy0⟩ : ∃ y, y = X[j].sec := ⟨_, rfl⟩
          have x0 : wr.cell? ⟨g4, j * 4, none⟩ = some (.int .u8 y0) := by rw [hy0]; exact see (i := 4) fE_len hOj rfl hXl 0 _ rfl
          have f0 : wr.frozen? ⟨g4, j * 4, none⟩ = false := hOj.frozen (i := 4) rfl _
          obtain ⟨y1, hy1⟩ : ∃ y, y = X[j].at_ := ⟨_, rfl⟩
          have x1 : wr.cell? ⟨g4, j * 4 + 1, none⟩ = some (.int .u32 y1) := by rw [hy1]; exact see (i := 4) fE_len hOj rfl hXl 1 _ rfl
          have f1 : wr.frozen? ⟨g4, j * 4 + 1, none⟩ = false := hOj.frozen (i := 4) rfl _
          obtain ⟨y2, hy2⟩ : ∃ y, y = X[j].name := ⟨_, rfl⟩
          have x2 : wr.cell? ⟨g4, j * 4 + 2, none⟩ = some (.string y2) := by rw [hy2]; exact see (i := 4) fE_len hOj rfl hXl 2 _ rfl
          have f2 : wr.frozen? ⟨g4, j * 4 + 2, none⟩ = false := hOj.frozen (i := 4) rfl _
          obtain ⟨y3, hy3⟩ : ∃ y, y = X[j].add := ⟨_, rfl⟩
          have x3 : wr.cell? ⟨g4, j * 4 + 3, none⟩ = some (.int .u32 y3) := by rw [hy3]; exact see (i := 4) fE_len hOj rfl hXl 3 _ rfl
          have f3 : wr.frozen? ⟨g4, j * 4 + 3, none⟩ = false := hOj.frozen (i := 4) rfl _
          have HOW := hide_ (show Owns ((((wr.setCell ⟨g4, j * 4, none⟩ (.int .u8 0)).setCell ⟨g4, j * 4 + 1, none⟩ (.int .u32 9)).setCell ⟨g4, j * 4 + 2, none⟩ (.string ⟨#[111, 118, 101, 114]⟩)).setCell ⟨g4, j * 4 + 3, none⟩ (.int .u32 0)) B (Rw 52 2 g0 c0 n ((ovl ovCf n).flatMap cE) :: Rw 5 1 g1 c1 nd (u8s (ovl ovDf nd)) :: Rw 9 1 g2 c2 nt (strV (ovl ovTf nt)) :: Rw 45 4 g3 c3 nl ((ovl ovLf nl).flatMap lE) :: Rw 47 4 g4 c4 nf ((ovl ovFf (j + 1) ++ lf.drop (j + 1)).flatMap fE) :: Rw 49 2 g5 c5 ne ((le).flatMap eE) :: Bx b z sk g0 c0 n g1 c1 nd g2 c2 nt g3 c3 nl g4 c4 nf g5 c5 ne :: ex) by
            have h9 := put4 (i := 4) fE_len hOj rfl hXl (m := ovFf j) rfl
            rw [hX, ovl_set _ _ hjl] at h9
            exact h9)
          have hg1 := (hOj.base (i := 4) rfl).1
          have hg2 := (hOj.base (i := 4) rfl).2
          clear hX hXl hOj HO hjl hy0 hy1 hy2 hy3
          go_wp2
          go_roundw
          case rel => exact ⟨j + 1, by omega, by go_num, HOW, ((((HB.out.setCell (p := ⟨g4, j * 4, none⟩) hg1 _).setCell (p := ⟨g4, j * 4 + 1, none⟩) hg1 _).setCell (p := ⟨g4, j * 4 + 2, none⟩) hg1 _).setCell (p := ⟨g4, j * 4 + 3, none⟩) hg1 _)⟩
          case measure => simp [intOf]; omega
        · have hjn : j = nf := by omega
          subst j
          clear hlt hj
          have hfl : lf.drop nf = [] := List.drop_eq_nil_of_le (by rw [H4.out]; exact Nat.le_refl _)
          have hOj := HO.out
          rw [hfl, List.append_nil] at hOj
          have HO6 := hide_ hOj
          have HB6 := HB
          clear hfl hOj HO HB
          go_wp2
          go_loopw [4] (fun i0 wr => ∃ j : Nat, j ≤ ne ∧ i0 = .int .i64 j ∧ Hid (Owns wr B (Rw 52 2 g0 c0 n ((ovl ovCf n).flatMap cE) :: Rw 5 1 g1 c1 nd (u8s (ovl ovDf nd)) :: Rw 9 1 g2 c2 nt (strV (ovl ovTf nt)) :: Rw 45 4 g3 c3 nl ((ovl ovLf nl).flatMap lE) :: Rw 47 4 g4 c4 nf ((ovl ovFf nf).flatMap fE) :: Rw 49 2 g5 c5 ne ((ovl ovEf j ++ le.drop j).flatMap eE) :: Bx b z sk g0 c0 n g1 c1 nd g2 c2 nt g3 c3 nl g4 c4 nf g5 c5 ne :: ex)) ∧ Below B w wr) (fun i0 _ => ne - (intOf i0).toNat)
          case atStart => exact ⟨0, Nat.zero_le _, rfl, HO6, HB6.out⟩
          case round =>
            clear HO6 HB6
            obtain ⟨j, hj, rfl, HO, hb⟩ := hrel
            have HB := hide_ hb
            clear hb
            have kb : wr.cell? ⟨b, 7, none⟩ = some (.slice (some ⟨g5, 0, none⟩) ne c5) := HO.out.cell (i := 6) (j := 7) rfl rfl
            by_cases hlt : j < ne
            · obtain ⟨X, hX⟩ : ∃ X, X = ovl ovEf j ++ le.drop j := ⟨_, rfl⟩
              have hjl : j < le.length := by rw [H5.out]; exact hlt
              have hXl : j < X.length := by rw [hX]; exact ovl_lt _ _ hjl
              have hOj := HO.out
              rw [← hX] at hOj
              obtain ⟨y0, hy0⟩ : ∃ y, y = X[j].name := ⟨_, rfl⟩
              have x0 : wr.cell? ⟨g5, j * 2, none⟩ = some (.string y0) := by rw [hy0]; exact see (i := 5) eE_len hOj rfl hXl 0 _ rfl
              have f0 : wr.frozen? ⟨g5, j * 2, none⟩ = false := hOj.frozen (i := 5) rfl _
              obtain ⟨y1, hy1⟩ : ∃ y, y = X[j].lab := ⟨_, rfl⟩
              have x1 : wr.cell? ⟨g5, j * 2 + 1, none⟩ = some (.string y1) := by rw [hy1]; exact see (i := 5) eE_len hOj rfl hXl 1 _ rfl
              have f1 : wr.frozen? ⟨g5, j * 2 + 1, none⟩ = false := hOj.frozen (i := 5) rfl _
              have HOW := hide_ (show Owns ((wr.setCell ⟨g5, j * 2, none⟩ (.string ⟨#[111, 118, 101, 114]⟩)).setCell ⟨g5, j * 2 + 1, none⟩ (.string ⟨#[]⟩)) B (Rw 52 2 g0 c0 n ((ovl ovCf n).flatMap cE) :: Rw 5 1 g1 c1 nd (u8s (ovl ovDf nd)) :: Rw 9 1 g2 c2 nt (strV (ovl ovTf nt)) :: Rw 45 4 g3 c3 nl ((ovl ovLf nl).flatMap lE) :: Rw 47 4 g4 c4 nf ((ovl ovFf nf).flatMap fE) :: Rw 49 2 g5 c5 ne ((ovl ovEf (j + 1) ++ le.drop (j + 1)).flatMap eE) :: Bx b z sk g0 c0 n g1 c1 nd g2 c2 nt g3 c3 nl g4 c4 nf g5 c5 ne :: ex) by
                have h9 := put2 (i := 5) eE_len hOj rfl hXl (m := ovEf j) rfl
                rw [hX, ovl_set _ _ hjl] at h9
                exact h9)
              have hg1 := (hOj.base (i := 5) rfl).1
              have hg2 := (hOj.base (i := 5) rfl).2
              clear hX hXl hOj HO hjl hy0 hy1
              go_wp2
              go_roundw
              case rel => exact ⟨j + 1, by omega, by go_num, HOW, ((HB.out.setCell (p := ⟨g5, j * 2, none⟩) hg1 _).setCell (p := ⟨g5, j * 2 + 1, none⟩) hg1 _)⟩
              case measure => simp [intOf]; omega
            · have hjn : j = ne := by omega
              subst j
              clear hlt hj
              have hfl : le.drop ne = [] := List.drop_eq_nil_of_le (by rw [H5.out]; exact Nat.le_refl _)
              have hOj := HO.out
              rw [hfl, List.append_nil] at hOj
              have HO7 := hide_ hOj
              have HB7 := HB
              clear hfl hOj HO HB
              go_wp2
              go_end0
              exact ⟨rfl, HO7.out.sub (six_sub _ _ _ _ _ _ _ _), HB7.out⟩
noncomputable def ovO (x : ObjV) : ObjV := ⟨ovl ovCf x.code.length, ovl ovDf x.data.length, x.zero, x.stack, ovl ovLf x.labels.length, ovl ovFf x.fixes.length, ovl ovTf x.targets.length, ovl ovEf x.entries.length⟩
theorem objV_ov (x : ObjV) (s : ObjS) : objV (ovO x) s = objV x s := by simp only [objV, ovO, ovl_len]
theorem objV_ovf (x : ObjV) (s : ObjS) : objV (ovO (fullO x)) s = objV (fullO x) s := objV_ov _ _
theorem some_of {W : World} {B n size c : Nat} {e : TypeId} {A : Option Addr} {xs : List Value} (h : W.ownsRow B e size (.slice A n c) n xs) (hn : 0 < n) : ∃ g, A = some ⟨g, 0, none⟩ := by
  obtain ⟨g, c', e⟩ := ownsRow_some h hn
  injection e with e1
  exact ⟨g, e1⟩
theorem OverObject_any (x : ObjV) (s : ObjS) (B : Nat) (ex : List Ro) (w : World) (hO : Owns w B (ownO x s ++ ex)) (hB : B ≤ w.heap.size) (h0 : 0 < x.code.length ∧ 0 < x.data.length ∧ 0 < x.targets.length ∧ 0 < x.labels.length ∧ 0 < x.fixes.length ∧ 0 < x.entries.length)
    (h1 : x.code.length ≤ 1048640 ∧ x.data.length ≤ 1048640 ∧ x.targets.length ≤ 1048640 ∧ x.labels.length ≤ 1048640 ∧ x.fixes.length ≤ 1048640 ∧ x.entries.length ≤ 1048640) :
    Calls Tryz.prog 11 #[.agg (objV x s)] w fun e w' => e = .returned (.tuple #[]) ∧ Owns w' B (ownO (ovO x) s ++ ex) ∧ Below B w w' := by
  obtain ⟨⟨aC, a0⟩, ⟨aD, a1⟩, ⟨aL, a2⟩, ⟨aF, a3⟩, ⟨aT, a4⟩, ⟨aE, a5⟩⟩ := s
  obtain ⟨m0, m1, m2, m3, m4, m5⟩ := h1
  obtain ⟨k0, k1, k2, k3, k4, k5⟩ := h0
  obtain ⟨g0, e0⟩ : ∃ g, aC = some ⟨g, 0, none⟩ := some_of (hO.at_ (i := 0) rfl) k0
  obtain ⟨g1, e1⟩ : ∃ g, aD = some ⟨g, 0, none⟩ := some_of (hO.at_ (i := 1) rfl) k1
  obtain ⟨g2, e2⟩ : ∃ g, aT = some ⟨g, 0, none⟩ := some_of (hO.at_ (i := 2) rfl) k2
  obtain ⟨g3, e3⟩ : ∃ g, aL = some ⟨g, 0, none⟩ := some_of (hO.at_ (i := 3) rfl) k3
  obtain ⟨g4, e4⟩ : ∃ g, aF = some ⟨g, 0, none⟩ := some_of (hO.at_ (i := 4) rfl) k4
  obtain ⟨g5, e5⟩ : ∃ g, aE = some ⟨g, 0, none⟩ := some_of (hO.at_ (i := 5) rfl) k5
  subst e0 e1 e2 e3 e4 e5
  refine (OverObject_core x.code.length x.data.length x.targets.length x.labels.length x.fixes.length x.entries.length g0 a0 g1 a1 g2 a4 g3 a2 g4 a3 g5 a5 B x.zero x.stack x.code x.data x.targets x.labels x.fixes x.entries ex w m0 m1 m2 m3 m4 m5 rfl rfl rfl rfl rfl rfl hO hB).mono ?_
  rintro e w' ⟨p1, p2, p3⟩
  refine ⟨p1, ?_, p3⟩
  unfold ownO ovO
  simp only [ovl_len]
  exact p2
theorem ovl_add {α : Type} (f : Nat → α) (n m : Nat) : ovl f (n + m) = ovl f n ++ (List.range m).map (fun i => f (n + i)) := by
  unfold ovl
  rw [List.range_add, List.map_append, List.map_map]
  rfl
theorem ObjR.preO {W : World} {B : Nat} {x : ObjV} {s : ObjS} (h : ObjR W B (ovO (fullO x)) s) : ObjR W B (ovO x) s := by
  obtain ⟨rc, rd, rl, rf, rt, re, k1, k2, k3, k4, k5, k6⟩ := h
  simp only [ovO, fullO, ovl_len, List.length_append, marksC_len, marks8_len, marksS_len, marksL_len, marksF_len, marksE_len] at rc rd rl rf rt re k1 k2 k3 k4 k5 k6
  rw [ovl_add] at rc rd rl rf rt re
  rw [List.flatMap_append] at rc rl rf re
  rw [u8s_append] at rd
  rw [strV_append] at rt
  refine ⟨?_, ?_, ?_, ?_, ?_, ?_, ?_⟩
  all_goals simp only [ovO, ovl_len]
  · exact rc.pre (by rw [enc_len cE_len, ovl_len])
  · exact rd.pre (by simp [u8s, ovl_len])
  · exact rl.pre (by rw [enc_len lE_len, ovl_len])
  · exact rf.pre (by rw [enc_len fE_len, ovl_len])
  · exact rt.pre (by simp [strV, ovl_len])
  · exact re.pre (by rw [enc_len eE_len, ovl_len])
  · exact ⟨by omega, by omega, by omega, by omega, by omega, by omega⟩
theorem capsO_ov {x : ObjV} {s : ObjS} (h : capsO x s) : capsO (ovO x) s := by
  unfold capsO ovO at *
  simp only [ovl_len]
  exact h
theorem ovl_mem {α : Type} {f : Nat → α} {n : Nat} {a : α} (h : a ∈ ovl f n) : ∃ i, i < n ∧ a = f i := by
  unfold ovl at h
  obtain ⟨i, hi, rfl⟩ := List.mem_map.1 h
  exact ⟨i, List.mem_range.1 hi, rfl⟩
theorem ObjOk.over {x : ObjV} (h : ObjOk x) (hn : x.code.length ≤ 1048640) : ObjOk (ovO x) := by
  obtain ⟨l1, l2, l3, l4, l5, l6⟩ := h.lens
  refine ⟨fun t ht => ?_, fun t ht => ?_, h.zero, h.stack, fun t ht => ?_, fun t ht => ?_, fun t ht => ?_, fun t ht => ?_, ?_⟩
  · obtain ⟨i, hi, rfl⟩ := ovl_mem ht
    unfold ovCf
    exact ⟨⟨show (0 : Int) ≤ 199 by decide, show (199 : Int) ≤ 255 by decide⟩, show (0 : Int) ≤ (i : Int) by omega, show (i : Int) < 4294967296 by omega⟩
  · obtain ⟨i, hi, rfl⟩ := ovl_mem ht
    exact mk8_bd _ _
  · obtain ⟨i, hi, rfl⟩ := ovl_mem ht
    exact ⟨show (4 : Nat) ≤ 140737488351232 by decide, ⟨show (0 : Int) ≤ 0 by decide, show (0 : Int) ≤ 255 by decide⟩, show (0 : Int) ≤ 9 by decide, show (9 : Int) < 4294967296 by decide⟩
  · obtain ⟨i, hi, rfl⟩ := ovl_mem ht
    exact ⟨show (4 : Nat) ≤ 140737488351232 by decide, ⟨show (0 : Int) ≤ 0 by decide, show (0 : Int) ≤ 255 by decide⟩, ⟨show (0 : Int) ≤ 9 by decide, show (9 : Int) < 4294967296 by decide⟩, show (0 : Int) ≤ 0 by decide, show (0 : Int) < 4294967296 by decide⟩
  · obtain ⟨i, hi, rfl⟩ := ovl_mem ht
    unfold ovTf mkS
    rw [strOfNums_size]
    show (5 : Nat) ≤ 140737488351232
    decide
  · obtain ⟨i, hi, rfl⟩ := ovl_mem ht
    exact ⟨show (4 : Nat) ≤ 140737488351232 by decide, show (0 : Nat) ≤ 140737488351232 by decide⟩
  · simp only [ovO, ovl_len]
    exact ⟨l1, l2, l3, l4, l5, l6⟩
end Go.Proofs.YtnkfjileaonemaaGreatDoor
/-
  The sizes of an object's text: where the names' sizes in all are bounded, the text fits.
-/
namespace Go.Proofs.YtnkfjileaonemaaGreatDoor
open Go.RowKit Go.PlainAid
set_option linter.unusedSimpArgs false
set_option linter.unusedVariables false
set_option maxRecDepth 100000
/-- the names' sizes in all -/
structure SumFit (x : ObjV) : Prop where
  l : (x.labels.map fun t => t.name.size + 1).sum ≤ 8388608
  f : (x.fixes.map fun t => t.name.size + 1).sum ≤ 8388608
  t : (x.targets.map fun t => t.size + 1).sum ≤ 8388608
  e : (x.entries.map fun t => t.name.size + t.lab.size + 1).sum ≤ 8388608
theorem e0_size : e0B.size = 0 := rfl
theorem cat_le {α : Type} {f : α → ByteArray} {g : α → Nat} {m : Nat} : ∀ {l : List α}, (∀ a ∈ l, (f a).size ≤ m * g a) → (cat (l.map f)).size ≤ m * (l.map g).sum
  | [], _ => by show e0B.size ≤ _; rw [e0_size]; exact Nat.zero_le _
  | a :: l, h => by
    have h1 := h a (by simp)
    have h2 := cat_le (l := l) fun b hb => h b (by simp [hb])
    show (f a ++ cat (l.map f)).size ≤ m * (g a + (l.map g).sum)
    rw [ba_size, Nat.mul_add]
    omega
theorem sum_filter {α : Type} (p : α → Bool) (g : α → Nat) (l : List α) : ((l.filter p).map g).sum ≤ (l.map g).sum := by
  induction l with
  | nil => simp
  | cons a l ih =>
    rw [List.filter_cons]
    split
    · simp only [List.map_cons, List.sum_cons]; omega
    · simp only [List.map_cons, List.sum_cons]; omega
theorem sum_mem {α : Type} (g : α → Nat) {l : List α} {a : α} (h : a ∈ l) : g a ≤ (l.map g).sum := by
  induction l with
  | nil => cases h
  | cons b l ih =>
    simp only [List.map_cons, List.sum_cons]
    rcases List.mem_cons.1 h with rfl | h
    · omega
    · have := ih h; omega
theorem labLn_size (l : LabV) : (labLn l).size = l.name.size + 2 := by unfold labLn; rw [ba_size]; rfl
theorem atL_size {x : ObjV} (h : SumFit x) (sec at_ : Int) : (atL x.labels sec at_).size ≤ 16777216 := by
  have h1 := cat_le (f := labLn) (g := fun t : LabV => t.name.size + 1) (m := 2) (l := x.labels.filter (labAt sec at_)) fun a _ => by rw [labLn_size]; omega
  have h2 := sum_filter (labAt sec at_) (fun t : LabV => t.name.size + 1) x.labels
  have h3 := h.l
  unfold atL
  omega
theorem fixT_size {x : ObjV} (hx : ObjOk x) (h : SumFit x) (sec at_ : Int) : (fixT x.fixes sec at_).size ≤ 8388640 := by
  unfold fixT
  split
  · rename_i f hf
    have hm := List.mem_of_find?_eq_some hf
    have h1 := sum_mem (fun t : FixV => t.name.size + 1) hm
    have h2 := h.f
    have h3 := (hx.fixes f hm).2.2.2
    unfold fixTx
    split
    · omega
    · have h4 := decT_size f.add.toNat (by omega)
      rw [ba_size, ba_size, show (⟨#[43]⟩ : ByteArray).size = 1 from rfl]
      omega
  · rw [e0_size]; omega
theorem sgnT_le {a : Int} (h0 : 0 ≤ a) (h1 : a < 4294967296) : (sgnT a).size ≤ 21 := by
  by_cases h : 2147483648 ≤ a
  · have := decT_size (4294967296 - a).toNat (by omega)
    rw [sgnT_neg h h1, ba_size]
    show 1 + (decT _).size ≤ 21
    omega
  · have := decT_size a.toNat (by omega)
    rw [sgnT_pos h0 h]
    show (decT _).size ≤ 21
    omega
theorem insT_size {x : ObjV} (hx : ObjOk x) (h : SumFit x) (i : Nat) : (insT x i).size ≤ 25165900 := by
  have h1 := atL_size h 1 i
  have h2 := fixT_size hx h 1 i
  unfold insT
  rw [ba_size]
  split
  · rw [e0_size]; omega
  · rename_i t ht
    have h3 := sgnT_le (hx.code t (List.mem_of_getElem? ht)).2.1 (hx.code t (List.mem_of_getElem? ht)).2.2
    have h4 := opR_short t.1
    have h5 : (if 0 < (opR t.1).width then ⟨#[32]⟩ ++ (if fixT x.fixes 1 i = e0B then sgnT t.2 else fixT x.fixes 1 i) else e0B : ByteArray).size ≤ 8388641 := by
      split
      · rw [ba_size, show (⟨#[32]⟩ : ByteArray).size = 1 from rfl]
        split <;> omega
      · rw [e0_size]; omega
    rw [ba_size, ba_size, ba_size, show (⟨#[9]⟩ : ByteArray).size = 1 from rfl, show (⟨#[10]⟩ : ByteArray).size = 1 from rfl, show (⟨(opR t.1).w.toArray⟩ : ByteArray).size = (opR t.1).w.length from by simp [ByteArray.size]]
    omega
theorem codeR_size {x : ObjV} (hx : ObjOk x) (h : SumFit x) : ∀ (k i : Nat), (codeR x k i).size ≤ 16777216 + k * 25165900
  | 0, i => by have := atL_size h 1 i; unfold codeR; omega
  | k + 1, i => by
    have h1 := insT_size hx h i
    have h2 := codeR_size hx h k (i + 1)
    unfold codeR
    rw [ba_size, Nat.succ_mul]
    omega
theorem showT_size (l : List Int) : (showT l).size ≤ 4 * l.length + 2 := by
  have := showM_len l
  unfold showT showL
  rw [strOfNums_size, List.length_append]
  simp only [List.length_cons, List.length_nil]
  omega
theorem dataR_size {x : ObjV} (hx : ObjOk x) (h : SumFit x) (hd : x.data.length ≤ 65536) : ∀ (k i : Nat), (dataR x k i).size ≤ 16777216 + k * 33554432
  | 0, i => by have := atL_size h 2 x.data.length; unfold dataR; omega
  | k + 1, i => by
    have h1 := atL_size h 2 i
    have h0 := atL_size h 2 x.data.length
    have h2 := fixT_size hx h 2 i
    have h3 := dataR_size hx h hd k (stopK x i)
    have h4 := dataR_size hx h hd k (i + 4)
    have h5 := showT_size ((x.data.drop i).take (stopK x i - i))
    have h6 : ((x.data.drop i).take (stopK x i - i)).length ≤ 65536 := by rw [List.length_take, List.length_drop]; omega
    unfold dataR
    rw [Nat.succ_mul]
    split
    · exact Nat.le_trans h0 (Nat.le_add_right _ _)
    · rw [ba_size]
      generalize (atL x.labels 2 (i : Int)).size = a1 at *
      clear h0 hd
      split
      · rw [ba_size, ba_size, ba_size, show (⟨#[9, 98, 121, 116, 101, 115, 32]⟩ : ByteArray).size = 7 from rfl, show (⟨#[10]⟩ : ByteArray).size = 1 from rfl]
        omega
      · rw [ba_size, ba_size, ba_size, show (⟨#[9, 119, 111, 114, 100, 32]⟩ : ByteArray).size = 6 from rfl, show (⟨#[10]⟩ : ByteArray).size = 1 from rfl]
        omega
theorem spaceT_size {n : Int} (h : n < 4294967296) : (spaceT n).size ≤ 28 := by
  have := decT_size n.toNat (by omega)
  unfold spaceT
  rw [ba_size, ba_size, show (⟨#[9, 115, 112, 97, 99, 101, 32]⟩ : ByteArray).size = 7 from rfl, show (⟨#[10]⟩ : ByteArray).size = 1 from rfl]
  omega
theorem zeroR_size {z : Int} (hz : z < 4294967296) : ∀ (L : List LabV) (at_ : Int), (∀ l ∈ L, 0 ≤ l.at_ ∧ l.at_ < 4294967296) → 0 ≤ at_ → (zeroR z L at_).size ≤ 30 * (L.map fun t => t.name.size + 1).sum + 28
  | [], at_, _, h0 => by
    unfold zeroR
    split
    · have := spaceT_size (n := z - at_) (by omega)
      omega
    · rw [e0_size]; omega
  | l :: L, at_, h, h0 => by
    have hl := h l (by simp)
    have h1 := zeroR_size hz L l.at_ (fun b hb => h b (by simp [hb])) hl.1
    have h2 := zeroR_size hz L at_ (fun b hb => h b (by simp [hb])) h0
    have h3 := spaceT_size (n := l.at_ - at_) (by omega)
    unfold zeroR
    simp only [List.map_cons, List.sum_cons]
    split
    · split
      · rw [ba_size, ba_size, labLn_size]; omega
      · rw [ba_size, labLn_size]; omega
    · omega
theorem openT_size (l : LabV) : (openT l).size ≤ 6 * (l.name.size + 1) := by
  unfold openT
  split
  · rw [ba_size, ba_size, show (⟨#[111, 112, 101, 110, 32]⟩ : ByteArray).size = 5 from rfl, show (⟨#[10]⟩ : ByteArray).size = 1 from rfl]; omega
  · rw [e0_size]; omega
theorem targT_size (t : ByteArray) : (targT t).size ≤ 8 * (t.size + 1) := by
  unfold targT
  rw [ba_size, ba_size, show (⟨#[116, 97, 114, 103, 101, 116, 32]⟩ : ByteArray).size = 7 from rfl, show (⟨#[10]⟩ : ByteArray).size = 1 from rfl]; omega
theorem entT_size (t : EntV) : (entT t).size ≤ 12 * (t.name.size + t.lab.size + 1) := by
  have h1 := showT_size (numsB t.name)
  have h2 : (numsB t.name).length = t.name.size := by
    unfold numsB
    rw [List.length_map]
    rfl
  unfold entT
  rw [ba_size, ba_size, ba_size, ba_size, show (⟨#[101, 110, 116, 114, 121, 32]⟩ : ByteArray).size = 6 from rfl, show (⟨#[10]⟩ : ByteArray).size = 1 from rfl, show (⟨#[44, 32]⟩ : ByteArray).size = 2 from rfl]
  omega
theorem restT_size {x : ObjV} (hx : ObjOk x) (h : SumFit x) : (restT x).size ≤ 300000000 := by
  have h1 := cat_le (f := openT) (l := x.labels) fun a _ => openT_size a
  have h2 := cat_le (f := targT) (l := x.targets) fun a _ => targT_size a
  have h3 := cat_le (f := entT) (l := x.entries) fun a _ => entT_size a
  have h4 := h.l
  have h5 := h.t
  have h6 := h.e
  have h7 : (stackT x).size ≤ 27 := by
    have := decT_size x.stack.toNat (by have := hx.stack; omega)
    unfold stackT
    split
    · rw [e0_size]; omega
    · rw [ba_size, ba_size, show (⟨#[115, 116, 97, 99, 107, 32]⟩ : ByteArray).size = 6 from rfl, show (⟨#[10]⟩ : ByteArray).size = 1 from rfl]; omega
  unfold restT
  rw [ba_size, ba_size, ba_size]
  omega
theorem PrtFit.of {x : ObjV} (hx : ObjOk x) (h : SumFit x) (hb : boundB x = true) : PrtFit x := by
  unfold boundB at hb
  obtain ⟨b1, b2, b3, b4, b5, b6⟩ := of_decide_eq_true hb
  refine ⟨?_, fun i _ => Nat.le_trans (atL_size h 1 i) (by omega), fun i _ => Nat.le_trans (fixT_size hx h 1 i) (by omega), fun i _ => Nat.le_trans (atL_size h 2 i) (by omega), fun i _ => Nat.le_trans (fixT_size hx h 2 i) (by omega)⟩
  have h1 : (codeT x).size ≤ 500000000000 := by
    have := codeR_size hx h x.code.length 0
    unfold codeT
    rw [ba_size, show (⟨#[99, 111, 100, 101, 10]⟩ : ByteArray).size = 5 from rfl]
    omega
  have h2 : (dataT x).size ≤ 3000000000000 := by
    have := dataR_size hx h b2 x.data.length 0
    unfold dataT
    split
    · rw [e0_size]; omega
    · rw [ba_size, show (⟨#[100, 97, 116, 97, 10]⟩ : ByteArray).size = 5 from rfl]; omega
  have h3 : (zeroT x).size ≤ 300000000 := by
    have := zeroR_size hx.zero.2 x.labels 0 (fun l hl => (hx.labels l hl).2.2) (Int.le_refl _)
    have := h.l
    unfold zeroT
    split
    · rw [e0_size]; omega
    · rw [ba_size, show (⟨#[122, 101, 114, 111, 10]⟩ : ByteArray).size = 5 from rfl]; omega
  have h4 := restT_size hx h
  unfold bodyT
  rw [ba_size, ba_size, ba_size]
  omega
end Go.Proofs.YtnkfjileaonemaaGreatDoor
/-
  AsmPrint: asm.Print and the document's Print answer alike of every object, and of what an object holds when it is asked.
-/
namespace Go.Proofs.YtnkfjileaonemaaGreatDoor
open Go.RowKit Go.PlainAid Go.BigFrame
set_option linter.unusedSimpArgs false
set_option linter.unusedVariables false
set_option maxRecDepth 100000
theorem objV_cut (x : ObjV) (A C L F T E : Option Addr) (b0 b1 b2 b3 b4 b5 : Nat) : objV x ⟨⟨C, b0⟩, ⟨A, b1⟩, ⟨L, b2⟩, ⟨F, b3⟩, ⟨T, b4⟩, ⟨E, b5⟩⟩ = #[.slice C x.code.length b0, .slice A x.data.length b1, .int .u32 x.zero, .int .u32 x.stack, .slice L x.labels.length b2, .slice F x.fixes.length b3, .slice T x.targets.length b4, .slice E x.entries.length b5] := rfl
theorem sum_const {α : Type} {g : α → Nat} {m : Nat} {l : List α} (h : ∀ a ∈ l, g a ≤ m) : (l.map g).sum ≤ m * l.length := by
  induction l with
  | nil => simp
  | cons a l ih =>
    have h1 := h a (by simp)
    have h2 := ih fun b hb => h b (by simp [hb])
    simp only [List.map_cons, List.sum_cons, List.length_cons, Nat.mul_add]
    omega
theorem SumFit.over {x : ObjV} (h1 : x.labels.length ≤ 1048640) (h2 : x.fixes.length ≤ 1048640) (h3 : x.targets.length ≤ 1048640) (h4 : x.entries.length ≤ 1048640) : SumFit (ovO x) := by
  refine ⟨?_, ?_, ?_, ?_⟩
  · have h := sum_const (g := fun t : LabV => t.name.size + 1) (m := 5) (l := (ovO x).labels) fun a ha => by
      obtain ⟨i, hi, rfl⟩ := ovl_mem ha
      exact Nat.le_refl _
    have hl : (ovO x).labels.length = x.labels.length := ovl_len _ _
    omega
  · have h := sum_const (g := fun t : FixV => t.name.size + 1) (m := 5) (l := (ovO x).fixes) fun a ha => by
      obtain ⟨i, hi, rfl⟩ := ovl_mem ha
      exact Nat.le_refl _
    have hl : (ovO x).fixes.length = x.fixes.length := ovl_len _ _
    omega
  · have h := sum_const (g := fun t : ByteArray => t.size + 1) (m := 6) (l := (ovO x).targets) fun a ha => by
      obtain ⟨i, hi, rfl⟩ := ovl_mem ha
      show (mkS (-1) (i : Nat)).size + 1 ≤ 6
      unfold mkS
      rw [strOfNums_size]
      exact Nat.le_refl _
    have hl : (ovO x).targets.length = x.targets.length := ovl_len _ _
    omega
  · have h := sum_const (g := fun t : EntV => t.name.size + t.lab.size + 1) (m := 5) (l := (ovO x).entries) fun a ha => by
      obtain ⟨i, hi, rfl⟩ := ovl_mem ha
      exact Nat.le_refl _
    have hl : (ovO x).entries.length = x.entries.length := ovl_len _ _
    omega
theorem full_pos (x : ObjV) : 0 < (fullO x).code.length ∧ 0 < (fullO x).data.length ∧ 0 < (fullO x).targets.length ∧ 0 < (fullO x).labels.length ∧ 0 < (fullO x).fixes.length ∧ 0 < (fullO x).entries.length := by
  simp only [fullO, List.length_append, marksC_len, marks8_len, marksS_len, marksL_len, marksF_len, marksE_len]
  omega
/-- the lists are no longer than the bulk that is allowed -/
structure LenFit (x : ObjV) : Prop where
  c : x.code.length ≤ 1048576
  d : x.data.length ≤ 1048576
  l : x.labels.length ≤ 1048576
  f : x.fixes.length ≤ 1048576
  t : x.targets.length ≤ 1048576
  e : x.entries.length ≤ 1048576
theorem full_le {x : ObjV} (h : LenFit x) : (fullO x).code.length ≤ 1048640 ∧ (fullO x).data.length ≤ 1048640 ∧ (fullO x).targets.length ≤ 1048640 ∧ (fullO x).labels.length ≤ 1048640 ∧ (fullO x).fixes.length ≤ 1048640 ∧ (fullO x).entries.length ≤ 1048640 := by
  obtain ⟨h1, h2, h3, h4, h5, h6⟩ := h
  simp only [fullO, List.length_append, marksC_len, marks8_len, marksS_len, marksL_len, marksF_len, marksE_len]
  omega
theorem own_base {W : World} {B : Nat} {x : ObjV} {s : ObjS} (h : Owns W B (ownO (fullO x) s)) : B ≤ W.heap.size := by
  have h0 := h.at_ (i := 0) rfl
  obtain ⟨g, e⟩ := some_of h0 (full_pos x).1
  have := h0.lt g (by show Value.ownBlock (.slice s.c.A _ _) = _; rw [e]; rfl)
  omega
set_option maxHeartbeats 16000000 in
theorem AsmPrint_walk (x : ObjV) (s : ObjS) (w : World) (hx : ObjOk x) (hf : ObjFit x) (hr : ObjR w w.heap.size x s) (hs : SumFit x) (hl : LenFit x) (hT : TabOk w) : Calls Tryz.prog 4 #[.agg (objV x s)] w fun e w' => e = .returned (.bool true) ∧ Below w.heap.size w w' := by
  have hxo := hx.over (Nat.le_trans hl.c (by decide))
  have hso : SumFit (ovO x) := SumFit.over (Nat.le_trans hl.l (by decide)) (Nat.le_trans hl.f (by decide)) (Nat.le_trans hl.t (by decide)) (Nat.le_trans hl.e (by decide))
  have HLO := hide_ (fun W (hw : Below w.heap.size w W) => LentObject_any x s W hx hf ((hr.below hw).more hw.size))
  have HRP := hide_ (fun W (hw : Below w.heap.size w W) => rPrint_any x s W hx ((hr.below hw).more hw.size) (fun ho => PrtFit.of hx hs (okB_bound ho)))
  have HKO := hide_ (fun W s' (hw : Below w.heap.size w W) (ha : ObjR W W.heap.size (fullO x) s') => KeptObject_any x s' s W.heap.size W hx hf ha ((hr.below hw).more hw.size) (Nat.le_refl _))
  have HPP := hide_ (fun W s' (hw : Below w.heap.size w W) (ha : ObjR W W.heap.size (fullO x) s') => pPrint_any x s' W hx ha.pre (fun ho => PrtFit.of hx hs (okB_bound ho)) (hT.below hw))
  have HOV := hide_ (fun W s' B ex (hO : Owns W B (ownO (fullO x) s' ++ ex)) (hB : B ≤ W.heap.size) => OverObject_any (fullO x) s' B ex W hO hB (full_pos x) (full_le hl))
  have HRQ := hide_ (fun W s' (ha : ObjR W W.heap.size (ovO x) s') => rPrint_any (ovO x) s' W hxo ha (fun ho => PrtFit.of hxo hso (okB_bound ho)))
  have HPQ := hide_ (fun W s' (hw : Below w.heap.size w W) (ha : ObjR W W.heap.size (ovO x) s') => pPrint_any (ovO x) s' W hxo ha (fun ho => PrtFit.of hxo hso (okB_bound ho)) (hT.below hw))
  clear hxo hso
  obtain ⟨P, hP⟩ : ∃ P, P = prtS x := ⟨_, rfl⟩
  obtain ⟨E, hE⟩ : ∃ E, E = prtE x := ⟨_, rfl⟩
  obtain ⟨Q, hQ⟩ : ∃ P, P = prtS (ovO x) := ⟨_, rfl⟩
  obtain ⟨G, hG⟩ : ∃ E, E = prtE (ovO x) := ⟨_, rfl⟩
  rw [← hP, ← hE] at HRP HPP
  rw [← hQ, ← hG] at HRQ HPQ
  obtain ⟨⟨aC, a0⟩, ⟨aD, a1⟩, ⟨aL, a2⟩, ⟨aF, a3⟩, ⟨aT, a4⟩, ⟨aE, a5⟩⟩ := s
  dsimp only [objV] at HLO HRP ⊢
  obtain ⟨n, hn⟩ : ∃ n, n = x.code.length := ⟨_, rfl⟩
  obtain ⟨nd, hnd⟩ : ∃ n, n = x.data.length := ⟨_, rfl⟩
  obtain ⟨nl, hnl⟩ : ∃ n, n = x.labels.length := ⟨_, rfl⟩
  obtain ⟨nf, hnf⟩ : ∃ n, n = x.fixes.length := ⟨_, rfl⟩
  obtain ⟨nt, hnt⟩ : ∃ n, n = x.targets.length := ⟨_, rfl⟩
  obtain ⟨ne, hne⟩ : ∃ n, n = x.entries.length := ⟨_, rfl⟩
  obtain ⟨z, hz⟩ : ∃ z, z = x.zero := ⟨_, rfl⟩
  obtain ⟨sk, hsk⟩ : ∃ z, z = x.stack := ⟨_, rfl⟩
  rw [← hn, ← hnd, ← hnl, ← hnf, ← hnt, ← hne, ← hz, ← hsk] at HLO HRP ⊢
  have HN := hide_ (And.intro hn (And.intro hnd (And.intro hnl (And.intro hnf (And.intro hnt (And.intro hne (And.intro hz hsk)))))))
  clear hn hnd hnl hnf hnt hne hz hsk hr hP hE hQ hG hx hf hs hl hT
  obtain ⟨W1, hW1⟩ : ∃ W, W = w.alloc (.cells #[.slice aC n a0, .slice aD nd a1, .int .u32 z, .int .u32 sk, .slice aL nl a2, .slice aF nf a3, .slice aT nt a4, .slice aE ne a5] 30) := ⟨_, rfl⟩
  have f0 : W1.cell? ⟨w.heap.size, 0, none⟩ = some (.slice aC n a0) := by rw [hW1]; go_simp
  have f1 : W1.cell? ⟨w.heap.size, 1, none⟩ = some (.slice aD nd a1) := by rw [hW1]; go_simp
  have f2 : W1.cell? ⟨w.heap.size, 2, none⟩ = some (.int .u32 z) := by rw [hW1]; go_simp
  have f3 : W1.cell? ⟨w.heap.size, 3, none⟩ = some (.int .u32 sk) := by rw [hW1]; go_simp
  have f4 : W1.cell? ⟨w.heap.size, 4, none⟩ = some (.slice aL nl a2) := by rw [hW1]; go_simp
  have f5 : W1.cell? ⟨w.heap.size, 5, none⟩ = some (.slice aF nf a3) := by rw [hW1]; go_simp
  have f6 : W1.cell? ⟨w.heap.size, 6, none⟩ = some (.slice aT nt a4) := by rw [hW1]; go_simp
  have f7 : W1.cell? ⟨w.heap.size, 7, none⟩ = some (.slice aE ne a5) := by rw [hW1]; go_simp
  have HB1 := hide_ (show Below w.heap.size w W1 by rw [hW1]; exact (Below.refl _ _).alloc (Nat.le_refl _) _)
  have hlt0 : w.heap.size < W1.heap.size := by rw [hW1]; simp
  go_enter Tryz.func4, Tryz.ntmps4
  go_upto_region 1 with (fail)
  rw [← hW1]
  clear hW1
  go_wp2_with fail
  refine (HRP.out _ HB1.out).mono ?_
  rintro e W2 ⟨rfl, hb2⟩
  have f0 := (hb2.cell (p := ⟨w.heap.size, 0, none⟩) hlt0).trans f0
  have f1 := (hb2.cell (p := ⟨w.heap.size, 1, none⟩) hlt0).trans f1
  have f2 := (hb2.cell (p := ⟨w.heap.size, 2, none⟩) hlt0).trans f2
  have f3 := (hb2.cell (p := ⟨w.heap.size, 3, none⟩) hlt0).trans f3
  have f4 := (hb2.cell (p := ⟨w.heap.size, 4, none⟩) hlt0).trans f4
  have f5 := (hb2.cell (p := ⟨w.heap.size, 5, none⟩) hlt0).trans f5
  have f6 := (hb2.cell (p := ⟨w.heap.size, 6, none⟩) hlt0).trans f6
  have f7 := (hb2.cell (p := ⟨w.heap.size, 7, none⟩) hlt0).trans f7
  have hlt0 := Nat.lt_of_lt_of_le hlt0 hb2.size
  have HB2 := hide_ (HB1.out.trans (hb2.mono HB1.out.size))
  clear hb2 HB1 HRP
  go_wp2_with fail
  refine (HLO.out _ HB2.out).mono ?_
  rintro e W3 ⟨⟨⟨bC, b0⟩, ⟨bD, b1⟩, ⟨bL, b2⟩, ⟨bF, b3⟩, ⟨bT, b4⟩, ⟨bE, b5⟩⟩, rfl, HO, hc, hb3⟩
  have HR3 := hide_ (ownO_R HO hc)
  have hbase := own_base HO
  have HBS := hide_ (show w.heap.size ≤ W2.heap.size + 3 by have := HB2.out.size; omega)
  have HOX := hide_ (Owns.box8 ⟨HO, hbase⟩ (.slice bC n b0) (.slice bD nd b1) (.int .u32 z) (.int .u32 sk) (.slice bL nl b2) (.slice bF nf b3) (.slice bT nt b4) (.slice bE ne b5))
  have HBA := hide_ hbase
  replace HO := hide_ HO
  have HCP := hide_ hc
  rw [objV_full, objV_cut]
  have HPP2 := hide_ (fun W (hw : Below w.heap.size w W) (ha : ObjR W W.heap.size (fullO x) ⟨⟨bC, b0⟩, ⟨bD, b1⟩, ⟨bL, b2⟩, ⟨bF, b3⟩, ⟨bT, b4⟩, ⟨bE, b5⟩⟩) => HPP.out W _ hw ha)
  have HKO2 := hide_ (fun W (hw : Below w.heap.size w W) (ha : ObjR W W.heap.size (fullO x) ⟨⟨bC, b0⟩, ⟨bD, b1⟩, ⟨bL, b2⟩, ⟨bF, b3⟩, ⟨bT, b4⟩, ⟨bE, b5⟩⟩) => HKO.out W _ hw ha)
  have HOV2 := hide_ (fun W B ex (hO : Owns W B (ownO (fullO x) ⟨⟨bC, b0⟩, ⟨bD, b1⟩, ⟨bL, b2⟩, ⟨bF, b3⟩, ⟨bT, b4⟩, ⟨bE, b5⟩⟩ ++ ex)) (hB : B ≤ W.heap.size) => HOV.out W _ B ex hO hB)
  have HRQ2 := hide_ (fun W (ha : ObjR W W.heap.size (ovO x) ⟨⟨bC, b0⟩, ⟨bD, b1⟩, ⟨bL, b2⟩, ⟨bF, b3⟩, ⟨bT, b4⟩, ⟨bE, b5⟩⟩) => HRQ.out W _ ha)
  have HPQ2 := hide_ (fun W (hw : Below w.heap.size w W) (ha : ObjR W W.heap.size (ovO x) ⟨⟨bC, b0⟩, ⟨bD, b1⟩, ⟨bL, b2⟩, ⟨bF, b3⟩, ⟨bT, b4⟩, ⟨bE, b5⟩⟩) => HPQ.out W _ hw ha)
  rw [objV_full] at HKO2 HOV2
  rw [objV_ov] at HRQ2 HPQ2
  dsimp only [objV] at HPP2 HKO2 HOV2 HRQ2 HPQ2
  obtain ⟨hn, hnd, hnl, hnf, hnt, hne, hz, hsk⟩ := HN.out
  dsimp only
  rw [← hn, ← hnd, ← hnl, ← hnf, ← hnt, ← hne, ← hz, ← hsk] at HPP2 HKO2 HOV2 HRQ2 HPQ2 ⊢
  clear hn hnd hnl hnf hnt hne hz hsk hc hbase HN HPP HKO HOV HRQ HPQ HLO
  have f0 := (hb3.cell (p := ⟨w.heap.size, 0, none⟩) hlt0).trans f0
  have f1 := (hb3.cell (p := ⟨w.heap.size, 1, none⟩) hlt0).trans f1
  have f2 := (hb3.cell (p := ⟨w.heap.size, 2, none⟩) hlt0).trans f2
  have f3 := (hb3.cell (p := ⟨w.heap.size, 3, none⟩) hlt0).trans f3
  have f4 := (hb3.cell (p := ⟨w.heap.size, 4, none⟩) hlt0).trans f4
  have f5 := (hb3.cell (p := ⟨w.heap.size, 5, none⟩) hlt0).trans f5
  have f6 := (hb3.cell (p := ⟨w.heap.size, 6, none⟩) hlt0).trans f6
  have f7 := (hb3.cell (p := ⟨w.heap.size, 7, none⟩) hlt0).trans f7
  have hlt0 := Nat.lt_of_lt_of_le hlt0 hb3.size
  have HB3 := hide_ (HB2.out.trans (hb3.mono HB2.out.size))
  clear hb3
  obtain ⟨W4, hW4⟩ : ∃ W, W = (W3.alloc (.cells #[.slice bC n b0, .slice bD nd b1, .int .u32 z, .int .u32 sk, .slice bL nl b2, .slice bF nf b3, .slice bT nt b4, .slice bE ne b5] 30)).alloc (.cells #[.slice bC (n + 64) b0, .slice bD (nd + 64) b1, .int .u32 z, .int .u32 sk, .slice bL (nl + 64) b2, .slice bF (nf + 64) b3, .slice bT (nt + 64) b4, .slice bE (ne + 64) b5] 30) := ⟨_, rfl⟩
  go_upto_region 3 with (fail)
  rw [← hW4]
  have hb4 : Below W3.heap.size W3 W4 := by rw [hW4]; exact ((Below.refl _ _).alloc (Nat.le_refl _) _).alloc (by simp) _
  have p0 : W4.cell? ⟨W3.heap.size, 0, none⟩ = some (.slice bC n b0) := by rw [hW4]; go_simp
  have p1 : W4.cell? ⟨W3.heap.size, 1, none⟩ = some (.slice bD nd b1) := by rw [hW4]; go_simp
  have p2 : W4.cell? ⟨W3.heap.size, 2, none⟩ = some (.int .u32 z) := by rw [hW4]; go_simp
  have p3 : W4.cell? ⟨W3.heap.size, 3, none⟩ = some (.int .u32 sk) := by rw [hW4]; go_simp
  have p4 : W4.cell? ⟨W3.heap.size, 4, none⟩ = some (.slice bL nl b2) := by rw [hW4]; go_simp
  have p5 : W4.cell? ⟨W3.heap.size, 5, none⟩ = some (.slice bF nf b3) := by rw [hW4]; go_simp
  have p6 : W4.cell? ⟨W3.heap.size, 6, none⟩ = some (.slice bT nt b4) := by rw [hW4]; go_simp
  have p7 : W4.cell? ⟨W3.heap.size, 7, none⟩ = some (.slice bE ne b5) := by rw [hW4]; go_simp
  have q0 : W4.cell? ⟨W3.heap.size + 1, 0, none⟩ = some (.slice bC (n + 64) b0) := by rw [hW4]; go_simp
  have q1 : W4.cell? ⟨W3.heap.size + 1, 1, none⟩ = some (.slice bD (nd + 64) b1) := by rw [hW4]; go_simp
  have q2 : W4.cell? ⟨W3.heap.size + 1, 2, none⟩ = some (.int .u32 z) := by rw [hW4]; go_simp
  have q3 : W4.cell? ⟨W3.heap.size + 1, 3, none⟩ = some (.int .u32 sk) := by rw [hW4]; go_simp
  have q4 : W4.cell? ⟨W3.heap.size + 1, 4, none⟩ = some (.slice bL (nl + 64) b2) := by rw [hW4]; go_simp
  have q5 : W4.cell? ⟨W3.heap.size + 1, 5, none⟩ = some (.slice bF (nf + 64) b3) := by rw [hW4]; go_simp
  have q6 : W4.cell? ⟨W3.heap.size + 1, 6, none⟩ = some (.slice bT (nt + 64) b4) := by rw [hW4]; go_simp
  have q7 : W4.cell? ⟨W3.heap.size + 1, 7, none⟩ = some (.slice bE (ne + 64) b5) := by rw [hW4]; go_simp
  have f0 := (hb4.cell (p := ⟨w.heap.size, 0, none⟩) hlt0).trans f0
  have f1 := (hb4.cell (p := ⟨w.heap.size, 1, none⟩) hlt0).trans f1
  have f2 := (hb4.cell (p := ⟨w.heap.size, 2, none⟩) hlt0).trans f2
  have f3 := (hb4.cell (p := ⟨w.heap.size, 3, none⟩) hlt0).trans f3
  have f4 := (hb4.cell (p := ⟨w.heap.size, 4, none⟩) hlt0).trans f4
  have f5 := (hb4.cell (p := ⟨w.heap.size, 5, none⟩) hlt0).trans f5
  have f6 := (hb4.cell (p := ⟨w.heap.size, 6, none⟩) hlt0).trans f6
  have f7 := (hb4.cell (p := ⟨w.heap.size, 7, none⟩) hlt0).trans f7
  have hlt0 := Nat.lt_of_lt_of_le hlt0 hb4.size
  have hlt2 : W3.heap.size < W4.heap.size := by rw [hW4]; simp; omega
  have hlt3 : W3.heap.size + 1 < W4.heap.size := by rw [hW4]; simp
  have HO4 := hide_ (show Owns W4 (W2.heap.size + 3) (ownO (fullO x) ⟨⟨bC, b0⟩, ⟨bD, b1⟩, ⟨bL, b2⟩, ⟨bF, b3⟩, ⟨bT, b4⟩, ⟨bE, b5⟩⟩ ++ [⟨30, 1, .slice (some ⟨W3.heap.size, 0, none⟩) 8 8, 8, [.slice bC n b0, .slice bD nd b1, .int .u32 z, .int .u32 sk, .slice bL nl b2, .slice bF nf b3, .slice bT nt b4, .slice bE ne b5]⟩]) by rw [hW4]; exact HOX.out.alloc _)
  have HR4 := hide_ ((HR3.out.below hb4).more hb4.size)
  have HB4 := hide_ (HB3.out.trans (hb4.mono HB3.out.size))
  have HBA4 := hide_ (Nat.le_trans HBA.out hb4.size)
  clear hb4 hW4 HB3 HR3 HO HOX HBA HB2
  go_wp2_with fail
  refine (HPP2.out W4 HB4.out HR4.out).mono ?_
  rintro e W5 ⟨rfl, hb5⟩
  have f0 := (hb5.cell (p := ⟨w.heap.size, 0, none⟩) hlt0).trans f0
  have f1 := (hb5.cell (p := ⟨w.heap.size, 1, none⟩) hlt0).trans f1
  have f2 := (hb5.cell (p := ⟨w.heap.size, 2, none⟩) hlt0).trans f2
  have f3 := (hb5.cell (p := ⟨w.heap.size, 3, none⟩) hlt0).trans f3
  have f4 := (hb5.cell (p := ⟨w.heap.size, 4, none⟩) hlt0).trans f4
  have f5 := (hb5.cell (p := ⟨w.heap.size, 5, none⟩) hlt0).trans f5
  have f6 := (hb5.cell (p := ⟨w.heap.size, 6, none⟩) hlt0).trans f6
  have f7 := (hb5.cell (p := ⟨w.heap.size, 7, none⟩) hlt0).trans f7
  have q0 := (hb5.cell (p := ⟨W3.heap.size + 1, 0, none⟩) hlt3).trans q0
  have q1 := (hb5.cell (p := ⟨W3.heap.size + 1, 1, none⟩) hlt3).trans q1
  have q2 := (hb5.cell (p := ⟨W3.heap.size + 1, 2, none⟩) hlt3).trans q2
  have q3 := (hb5.cell (p := ⟨W3.heap.size + 1, 3, none⟩) hlt3).trans q3
  have q4 := (hb5.cell (p := ⟨W3.heap.size + 1, 4, none⟩) hlt3).trans q4
  have q5 := (hb5.cell (p := ⟨W3.heap.size + 1, 5, none⟩) hlt3).trans q5
  have q6 := (hb5.cell (p := ⟨W3.heap.size + 1, 6, none⟩) hlt3).trans q6
  have q7 := (hb5.cell (p := ⟨W3.heap.size + 1, 7, none⟩) hlt3).trans q7
  have hlt0 := Nat.lt_of_lt_of_le hlt0 hb5.size
  have hlt3 := Nat.lt_of_lt_of_le hlt3 hb5.size
  have HR5 := hide_ ((HR4.out.below hb5).more hb5.size)
  have HO5 := hide_ (HO4.out.below hb5)
  have HB5 := hide_ (HB4.out.trans (hb5.mono HB4.out.size))
  have HBA5 := hide_ (Nat.le_trans HBA4.out hb5.size)
  clear hb5 HB4 HR4 HO4 HBA4 p0 p1 p2 p3 p4 p5 p6 p7
  go_wp2_with fail
  refine (HKO2.out _ HB5.out HR5.out).mono ?_
  rintro e W6 ⟨rfl, hb6⟩
  have q0 := (hb6.cell (p := ⟨W3.heap.size + 1, 0, none⟩) hlt3).trans q0
  have q1 := (hb6.cell (p := ⟨W3.heap.size + 1, 1, none⟩) hlt3).trans q1
  have q2 := (hb6.cell (p := ⟨W3.heap.size + 1, 2, none⟩) hlt3).trans q2
  have q3 := (hb6.cell (p := ⟨W3.heap.size + 1, 3, none⟩) hlt3).trans q3
  have q4 := (hb6.cell (p := ⟨W3.heap.size + 1, 4, none⟩) hlt3).trans q4
  have q5 := (hb6.cell (p := ⟨W3.heap.size + 1, 5, none⟩) hlt3).trans q5
  have q6 := (hb6.cell (p := ⟨W3.heap.size + 1, 6, none⟩) hlt3).trans q6
  have q7 := (hb6.cell (p := ⟨W3.heap.size + 1, 7, none⟩) hlt3).trans q7
  have HO6 := hide_ (HO5.out.below hb6)
  have HB6 := hide_ (HB5.out.trans (hb6.mono HB5.out.size))
  have HBA6 := hide_ (Nat.le_trans HBA5.out hb6.size)
  clear hb6 HB5 HR5 HO5 HBA5 f0 f1 f2 f3 f4 f5 f6 f7
  go_wp2_with fail
  refine (HOV2.out W6 _ _ HO6.out HBA6.out).mono ?_
  rintro e W7 ⟨rfl, hO7, hb7⟩
  have p0 : W7.cell? ⟨W3.heap.size, 0, none⟩ = some (.slice bC n b0) := hO7.cell (i := 6) (j := 0) rfl rfl
  have p1 : W7.cell? ⟨W3.heap.size, 1, none⟩ = some (.slice bD nd b1) := hO7.cell (i := 6) (j := 1) rfl rfl
  have p2 : W7.cell? ⟨W3.heap.size, 2, none⟩ = some (.int .u32 z) := hO7.cell (i := 6) (j := 2) rfl rfl
  have p3 : W7.cell? ⟨W3.heap.size, 3, none⟩ = some (.int .u32 sk) := hO7.cell (i := 6) (j := 3) rfl rfl
  have p4 : W7.cell? ⟨W3.heap.size, 4, none⟩ = some (.slice bL nl b2) := hO7.cell (i := 6) (j := 4) rfl rfl
  have p5 : W7.cell? ⟨W3.heap.size, 5, none⟩ = some (.slice bF nf b3) := hO7.cell (i := 6) (j := 5) rfl rfl
  have p6 : W7.cell? ⟨W3.heap.size, 6, none⟩ = some (.slice bT nt b4) := hO7.cell (i := 6) (j := 6) rfl rfl
  have p7 : W7.cell? ⟨W3.heap.size, 7, none⟩ = some (.slice bE ne b5) := hO7.cell (i := 6) (j := 7) rfl rfl
  have hlt2 : W3.heap.size < W7.heap.size := (hO7.base (i := 6) rfl).2
  have HR7 := hide_ (ownO_R (hO7.sub (List.sublist_append_left _ _)) (capsO_ov HCP.out)).preO
  have HB7 := hide_ (HB6.out.trans (hb7.mono HBS.out))
  clear hb7 hO7 HO6 HB6 HBA6 HCP HBS hlt3 hlt0 q0 q1 q2 q3 q4 q5 q6 q7
  go_wp2_with fail
  refine (HRQ2.out W7 HR7.out).mono ?_
  rintro e W8 ⟨rfl, hb8⟩
  have p0 := (hb8.cell (p := ⟨W3.heap.size, 0, none⟩) hlt2).trans p0
  have p1 := (hb8.cell (p := ⟨W3.heap.size, 1, none⟩) hlt2).trans p1
  have p2 := (hb8.cell (p := ⟨W3.heap.size, 2, none⟩) hlt2).trans p2
  have p3 := (hb8.cell (p := ⟨W3.heap.size, 3, none⟩) hlt2).trans p3
  have p4 := (hb8.cell (p := ⟨W3.heap.size, 4, none⟩) hlt2).trans p4
  have p5 := (hb8.cell (p := ⟨W3.heap.size, 5, none⟩) hlt2).trans p5
  have p6 := (hb8.cell (p := ⟨W3.heap.size, 6, none⟩) hlt2).trans p6
  have p7 := (hb8.cell (p := ⟨W3.heap.size, 7, none⟩) hlt2).trans p7
  have HR8 := hide_ ((HR7.out.below hb8).more hb8.size)
  have HB8 := hide_ (HB7.out.trans (hb8.mono HB7.out.size))
  clear hb8 HR7 HB7
  go_wp2_with fail
  refine (HPQ2.out W8 HB8.out HR8.out).mono ?_
  rintro e W9 ⟨rfl, hb9⟩
  have HB9 := hide_ (HB8.out.trans (hb9.mono HB8.out.size))
  clear hb9 HR8 HB8 p0 p1 p2 p3 p4 p5 p6 p7
  go_wp2
  go_ret
  exact ⟨rfl, HB9.out⟩
end Go.Proofs.YtnkfjileaonemaaGreatDoor
/-
  AsmPrint of an argument of bounded bulk: the names' sizes in all.
-/
namespace Go.Proofs.YtnkfjileaonemaaGreatDoor
open Go.RowKit
set_option maxRecDepth 100000
set_option linter.unusedVariables false
set_option linter.unusedSimpArgs false
/-- cells that read as some datum of a type, of bulk at most b -/
def SeenB {H : Type} (enc : TypeId × Value → H) (P : Program) (w : World) (held : Bool) (t : TypeId) (cs : List Value) (b : Nat) : Prop :=
  ∃ n d p, DataW.trod enc P w 0 (fun _ => true) held n t cs = some (d, p) ∧ Rows.uptoBulk d ≤ b
section
variable {H : Type} {enc : TypeId × Value → H} {P : Program} {w : World} {held : Bool}
theorem bulk_one (d : DataW H) : 1 ≤ Rows.uptoBulk d := by
  unfold Rows.uptoBulk
  split <;> omega
theorem bulk_all {l : List (DataW H)} : l.length ≤ Rows.uptoBulkAll l := by
  induction l with
  | nil => simp
  | cons a r ih =>
    have := bulk_one a
    simp only [Rows.uptoBulkAll, List.length_cons]
    omega
theorem bulk_le {d : DataW H} {l : List (DataW H)} (h : d ∈ l) : Rows.uptoBulk d ≤ Rows.uptoBulkAll l := by
  induction l with
  | nil => cases h
  | cons x r ih =>
    simp only [Rows.uptoBulkAll]
    cases List.mem_cons.1 h with
    | inl e => subst e; omega
    | inr e => have := ih e; omega
theorem seenB_int {t : TypeId} {k : IntKind} {cs : List Value} {b : Nat} (ht : P.underlying t = some (.int k)) (h : SeenB enc P w held t cs b) : ∃ a, cs = [.int k a] := by
  obtain ⟨n, d, p, h, _⟩ := h
  cases n with
  | zero => simp [DataW.trod] at h
  | succ n =>
    unfold DataW.trod at h
    rw [ht] at h
    split at h <;> simp_all
theorem seenB_string {t : TypeId} {cs : List Value} {b : Nat} (ht : P.underlying t = some .string) (h : SeenB enc P w held t cs b) : ∃ s : ByteArray, cs = [.string s] ∧ s.size + 1 ≤ b := by
  obtain ⟨n, d, p, h, hw⟩ := h
  cases n with
  | zero => simp [DataW.trod] at h
  | succ n =>
    unfold DataW.trod at h
    rw [ht] at h
    split at h <;> simp_all
    rename_i s
    obtain ⟨_, rfl, _⟩ := h
    simp only [Rows.uptoBulk, Array.length_toList] at hw
    have h9 : s.size + 1 ≤ b := hw
    omega
theorem seenB_struct {t : TypeId} {fs : Array Field} {cs : List Value} {b : Nat} (ht : P.underlying t = some (.struct fs)) (h : SeenB enc P w held t cs b) :
    cs.length = P.cellsOf t ∧ ∀ (i : Nat) (f : Field), fs[i]? = some f → SeenB enc P w held f.type ((cs.drop f.offset).take (P.cellsOf f.type)) b := by
  obtain ⟨n, d, p, h, hw⟩ := h
  obtain ⟨xs, m, rfl, hx, hl, hlen, hf⟩ := DataW.trod_struct ht h
  refine ⟨hl, fun i f hi => ?_⟩
  have hg := hf i f hi
  have hil : i < xs.length := by rw [hlen]; exact (Array.getElem?_eq_some_iff.1 hi).1
  rw [List.getElem?_eq_getElem hil] at hg
  injection hx with hd _
  subst hd
  refine ⟨m, xs[i].1, xs[i].2, hg, ?_⟩
  simp only [Rows.uptoBulk] at hw
  have := bulk_le (List.mem_map.2 ⟨_, List.getElem_mem hil, rfl⟩ : xs[i].1 ∈ xs.map (·.1))
  omega
theorem bulk_sum (l : List (DataW H)) : (l.map fun d => Rows.uptoBulk d).sum ≤ Rows.uptoBulkAll l := by
  induction l with
  | nil => simp
  | cons a r ih =>
    simp only [Rows.uptoBulkAll, List.map_cons, List.sum_cons]
    omega
theorem range_get {l : List Nat} : (List.range l.length).map (fun i => l[i]?.getD 0) = l := by
  apply List.ext_getElem?
  intro i
  rw [List.getElem?_map]
  by_cases h : i < l.length
  · rw [List.getElem?_range h, List.getElem?_eq_getElem h]; simp [List.getElem?_eq_getElem h]
  · rw [List.getElem?_eq_none (by simpa using h), List.getElem?_eq_none (by simpa using h)]; rfl
theorem seenB_slice {t e : TypeId} {cs : List Value} {b : Nat} (ht : P.underlying t = some (.slice e)) (he : 0 < P.cellsOf e) (h : SeenB enc P w held t cs b) :
    ∃ A n c, cs = [.slice A n c] ∧ n ≤ b ∧ ∃ β : Nat → Nat, ((List.range n).map β).sum ≤ b ∧
      ∀ i, i < n → ∃ ad vs, A = some ad ∧ vs.length = P.cellsOf e ∧ (∀ j, j < P.cellsOf e → w.cell? ((ad.add (i * P.cellsOf e)).add j) = vs[j]?) ∧ SeenB enc P w held e vs (β i) := by
  obtain ⟨n, d, p, h, hw⟩ := h
  rcases DataW.trod_slice ht h with ⟨rfl, _⟩ | ⟨a, len, cap, elems, rest, m, _, rfl, hx, _, hl, hc, hlen, hel, hre, _⟩
  · exact ⟨none, 0, 0, rfl, Nat.zero_le _, fun _ => 0, by simp, fun i hi => absurd hi (by omega)⟩
  · injection hx with hd _
    subst hd
    simp only [Rows.uptoBulk] at hw
    have hsum := bulk_sum (elems.map (·.1))
    have h9 := bulk_all (l := elems.map (·.1))
    rw [List.length_map, hlen] at h9
    refine ⟨some a, len, cap, rfl, by omega, fun i => ((elems.map (·.1)).map fun d => Rows.uptoBulk d)[i]?.getD 0, ?_, fun i hi => ?_⟩
    · have e1 : len = ((elems.map (·.1)).map fun d => Rows.uptoBulk d).length := by simp [hlen]
      rw [e1, range_get]
      omega
    · have hE := hel i hi
      have hil : i < elems.length := by omega
      rw [List.getElem?_eq_getElem hil] at hE
      simp only [Option.bind_eq_some_iff] at hE
      obtain ⟨vs, hvs, htr⟩ := hE
      have hcs := World.cells?_some hvs
      refine ⟨a, vs, rfl, hcs.2.1, hcs.2.2, m, elems[i].1, elems[i].2, htr, ?_⟩
      dsimp only
      rw [List.getElem?_map, List.getElem?_map, List.getElem?_eq_getElem hil]
      exact Nat.le_refl _
theorem sum_range_le {α : Type} {g : α → Nat} {m : Nat} : ∀ {l : List α} {β : Nat → Nat}, (∀ (i : Nat) (hi : i < l.length), g l[i] ≤ m * β i) → (l.map g).sum ≤ m * ((List.range l.length).map β).sum
  | [], _, _ => by simp
  | a :: l, β, h => by
    have h0 := h 0 (by simp)
    have h1 := sum_range_le (g := g) (m := m) (l := l) (β := fun i => β (i + 1)) fun i hi => h (i + 1) (by simpa using hi)
    rw [List.length_cons, List.range_succ_eq_map, List.map_cons, List.map_cons, List.sum_cons, List.sum_cons, List.map_map, Nat.mul_add]
    exact Nat.add_le_add h0 h1
/-- the weights of a list that is read -/
theorem seen_sum {α : Type} {ec : α → List Value} {K B : Nat} {l : List α} {g : α → Nat} {m n c b : Nat} {A : Option Addr} {t e : TypeId} (hK : ∀ a, (ec a).length = K) (hp : 0 < K) (ht : P.underlying t = some (.slice e)) (hc : P.cellsOf e = K)
    (hr : Reads w B K A n (l.flatMap ec)) (h : SeenB enc P w held t [.slice A n c] b) (hg : ∀ a β, SeenB enc P w held e (ec a) β → g a ≤ m * β) : n ≤ b ∧ (l.map g).sum ≤ m * b := by
  obtain ⟨A', n', c', hcs, h1, β, h2, h3⟩ := seenB_slice ht (by rw [hc]; exact hp) h
  have e1 : A = A' ∧ n = n' := by injection hcs with q _; injection q with q1 q2 q3; exact ⟨q1, q2⟩
  obtain ⟨rfl, rfl⟩ := e1
  have hl : l.length = n := by
    have := hr.1
    rw [enc_len hK] at this
    exact Nat.eq_of_mul_eq_mul_right hp this
  subst hl
  refine ⟨h1, Nat.le_trans (sum_range_le (β := β) fun i hi => ?_) (Nat.mul_le_mul_left m h2)⟩
  obtain ⟨ad, vs, rfl, hv, hcell, hs⟩ := h3 i hi
  obtain ⟨ad', e2, _, hrd⟩ := hr.2 (by omega)
  injection e2 with e2
  subst e2
  have hvs : vs = ec l[i] := by
    apply List.ext_getElem?
    intro j
    rw [hc] at hv hcell
    by_cases hj : j < K
    · have h5 := hcell j hj
      have hj2 : j < (ec l[i]).length := by rw [hK]; exact hj
      have h6 := hrd _ _ (enc_get hK l i _ (List.getElem?_eq_getElem hi) j _ (List.getElem?_eq_getElem hj2))
      rw [add_of_add] at h5
      rw [← h5, h6, List.getElem?_eq_getElem hj2]
    · rw [List.getElem?_eq_none (by omega), List.getElem?_eq_none (by rw [hK]; omega)]
  subst hvs
  exact hg _ _ hs
end
section
variable {H : Type} {enc : TypeId × Value → H} {w : World} {held : Bool}
theorem strV_flat (l : List ByteArray) : strV l = l.flatMap fun t => [Value.string t] := by
  induction l with
  | nil => rfl
  | cons a l ih => rw [List.flatMap_cons, ← ih]; rfl
theorem u8s_flat (l : List Int) : u8s l = l.flatMap fun t => [Value.int .u8 t] := by
  induction l with
  | nil => rfl
  | cons a l ih => rw [List.flatMap_cons, ← ih]; rfl
theorem one_str {a s : ByteArray} (h : [Value.string a] = [Value.string s]) : a = s := by injection h with h; injection h
theorem labB {a : LabV} {β : Nat} (h : SeenB enc Tryz.prog w held 45 (lE a) β) : a.name.size + 1 ≤ 1 * β := by
  obtain ⟨s, e, hs⟩ := seenB_string Tryz.underlying9 ((seenB_struct Tryz.underlying45 h).2 0 _ rfl)
  rw [one_str (show [Value.string a.name] = [Value.string s] from e)]
  omega
theorem fixB {a : FixV} {β : Nat} (h : SeenB enc Tryz.prog w held 47 (fE a) β) : a.name.size + 1 ≤ 1 * β := by
  obtain ⟨s, e, hs⟩ := seenB_string Tryz.underlying9 ((seenB_struct Tryz.underlying47 h).2 2 _ rfl)
  rw [one_str (show [Value.string a.name] = [Value.string s] from e)]
  omega
theorem strB {a : ByteArray} {β : Nat} (h : SeenB enc Tryz.prog w held 9 [Value.string a] β) : a.size + 1 ≤ 1 * β := by
  obtain ⟨s, e, hs⟩ := seenB_string Tryz.underlying9 h
  rw [one_str e]
  omega
theorem entB {a : EntV} {β : Nat} (h : SeenB enc Tryz.prog w held 49 (eE a) β) : a.name.size + a.lab.size + 1 ≤ 2 * β := by
  obtain ⟨s, e, hs⟩ := seenB_string Tryz.underlying9 ((seenB_struct Tryz.underlying49 h).2 0 _ rfl)
  obtain ⟨s', e', hs'⟩ := seenB_string Tryz.underlying9 ((seenB_struct Tryz.underlying49 h).2 1 _ rfl)
  rw [one_str (show [Value.string a.name] = [Value.string s] from e), one_str (show [Value.string a.lab] = [Value.string s'] from e')]
  omega
theorem obj_sums {x : ObjV} {s : ObjS} (hr : ObjR w w.heap.size x s) (h : SeenB enc Tryz.prog w held 30 (objV x s).toList 1048576) : SumFit x ∧ LenFit x := by
  have hf := (seenB_struct Tryz.underlying30 h).2
  have rd := hr.rd
  have rt := hr.rt
  rw [u8s_flat] at rd
  rw [strV_flat] at rt
  obtain ⟨n0, _⟩ := seen_sum (g := fun _ => 0) (m := 0) cE_len (by omega) Tryz.underlying22 (by kernel_rfl) hr.rc (hf 0 _ rfl) (fun _ _ _ => Nat.zero_le _)
  obtain ⟨n1, _⟩ := seen_sum (g := fun _ => 0) (K := 1) (m := 0) (fun _ => rfl) (by decide) Tryz.underlying23 (by kernel_rfl) rd (hf 1 _ rfl) (fun _ _ _ => Nat.zero_le _)
  obtain ⟨n4, m4⟩ := seen_sum (g := fun t : LabV => t.name.size + 1) (m := 1) lE_len (by omega) Tryz.underlying25 (by kernel_rfl) hr.rl (hf 4 _ rfl) (fun _ _ h => labB h)
  obtain ⟨n5, m5⟩ := seen_sum (g := fun t : FixV => t.name.size + 1) (m := 1) fE_len (by omega) Tryz.underlying26 (by kernel_rfl) hr.rf (hf 5 _ rfl) (fun _ _ h => fixB h)
  obtain ⟨n6, m6⟩ := seen_sum (g := fun t : ByteArray => t.size + 1) (K := 1) (m := 1) (fun _ => rfl) (by decide) Tryz.underlying27 (by kernel_rfl) rt (hf 6 _ rfl) (fun _ _ h => strB h)
  obtain ⟨n7, m7⟩ := seen_sum (g := fun t : EntV => t.name.size + t.lab.size + 1) (m := 2) eE_len (by omega) Tryz.underlying28 (by kernel_rfl) hr.re (hf 7 _ rfl) (fun _ _ h => entB h)
  exact ⟨⟨Nat.le_trans m4 (by decide), Nat.le_trans m5 (by decide), Nat.le_trans m6 (by decide), Nat.le_trans m7 (by decide)⟩, ⟨n0, n1, n4, n5, n6, n7⟩⟩
end
theorem AsmPrint_raw {H : Type} {enc : TypeId × Value → H} {base : Nat} (v : Value) (w : World) (hv : Value.okWide Tryz.prog w .any base 30 v) (h : Seen enc Tryz.prog w true 30 v.cells.toList) (hb : SeenB enc Tryz.prog w true 30 v.cells.toList 1048576) (hT : TabOk w) :
    Calls Tryz.prog 4 #[v] w fun e w' => e = .returned (.bool true) ∧ Below w.heap.size w w' := by
  obtain ⟨x, s, rfl, h1, h2, h3⟩ := obj_arg hv h
  obtain ⟨h4, h5⟩ := obj_sums h3 hb
  exact AsmPrint_walk x s w h1 h2 h3 h4 h5 hT
end Go.Proofs.YtnkfjileaonemaaGreatDoor
