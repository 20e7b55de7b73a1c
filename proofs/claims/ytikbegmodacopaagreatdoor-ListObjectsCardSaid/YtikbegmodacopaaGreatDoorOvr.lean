/-
  What the kit writes over a list: OverCode, OverBytes, of whatever length.
-/
import Derived.Test.YtikbegmodacopaaGreatDoorAgC
import Derived.Test.YtikbegmodacopaaGreatDoorAgB
namespace Go.Proofs.YtikbegmodacopaaGreatDoor
open Go.RowKit Go.PlainAid Go.BigFrame
set_option linter.unusedSimpArgs false
set_option linter.unusedVariables false
set_option maxRecDepth 100000
theorem set_at {rs : List Ro} {i : Nat} {r0 : Ro} (h : rs[i]? = some r0) (r : Ro) : (rs.set i r)[i]? = some r := by
  have h1 := (List.getElem?_eq_some_iff.1 h).1
  rw [List.getElem?_set, if_pos rfl, if_pos h1]
theorem set_same {rs : List Ro} {i : Nat} {r : Ro} (h : rs[i]? = some r) : rs.set i r = rs := by
  apply List.ext_getElem?
  intro j
  rw [List.getElem?_set]
  split
  · rename_i e
    subst e
    rw [if_pos (List.getElem?_eq_some_iff.1 h).1, h]
  · rfl
def ovl {α : Type} (f : Nat → α) (n : Nat) : List α := (List.range n).map f
theorem ovl_len {α : Type} (f : Nat → α) (n : Nat) : (ovl f n).length = n := by simp [ovl]
theorem ovl_set {α : Type} (f : Nat → α) (xs : List α) {j : Nat} (h : j < xs.length) : (ovl f j ++ xs.drop j).set j (f j) = ovl f (j + 1) ++ xs.drop (j + 1) := by
  rw [List.set_append_right _ _ (by rw [ovl_len]; exact Nat.le_refl _), ovl_len, Nat.sub_self, List.drop_eq_getElem_cons h, List.set_cons_zero]
  simp [ovl, List.range_succ]
theorem ovl_lt {α : Type} (f : Nat → α) (xs : List α) {j : Nat} (h : j < xs.length) : j < (ovl f j ++ xs.drop j).length := by
  rw [List.length_append, ovl_len, List.length_drop]; omega
theorem flat_set2 {α : Type} {enc : α → List Value} (hK : ∀ a, (enc a).length = 2) {u v : Value} {m : α} (hm : enc m = [u, v]) : ∀ (l : List α) (j : Nat), j < l.length → ((l.flatMap enc).set (j * 2) u).set (j * 2 + 1) v = (l.set j m).flatMap enc
  | [], j, h => by simp at h
  | x :: l, 0, _ => by
    have h2 := hK x
    match hx : enc x, h2 with
    | [p, q], _ => simp [hx, hm]
  | x :: l, j + 1, h => by
    have h2 := hK x
    have ih := flat_set2 hK hm l j (by simpa using h)
    rw [List.flatMap_cons, List.set_append_right _ _ (by rw [h2]; omega), List.set_append_right _ _ (by rw [h2]; omega), h2, show (j + 1) * 2 - 2 = j * 2 by omega, show (j + 1) * 2 + 1 - 2 = j * 2 + 1 by omega, ih]
    rfl
theorem flat_set4 {α : Type} {enc : α → List Value} (hK : ∀ a, (enc a).length = 4) {u v y z : Value} {m : α} (hm : enc m = [u, v, y, z]) : ∀ (l : List α) (j : Nat), j < l.length → ((((l.flatMap enc).set (j * 4) u).set (j * 4 + 1) v).set (j * 4 + 2) y).set (j * 4 + 3) z = (l.set j m).flatMap enc
  | [], j, h => by simp at h
  | x :: l, 0, _ => by
    have h2 := hK x
    match hx : enc x, h2 with
    | [p, q, r, s], _ => simp [hx, hm]
  | x :: l, j + 1, h => by
    have h2 := hK x
    have ih := flat_set4 hK hm l j (by simpa using h)
    rw [List.flatMap_cons, List.set_append_right _ _ (by rw [h2]; omega), List.set_append_right _ _ (by rw [h2]; omega), List.set_append_right _ _ (by rw [h2]; omega), List.set_append_right _ _ (by rw [h2]; omega), h2, show (j + 1) * 4 - 4 = j * 4 by omega, show (j + 1) * 4 + 1 - 4 = j * 4 + 1 by omega, show (j + 1) * 4 + 2 - 4 = j * 4 + 2 by omega, show (j + 1) * 4 + 3 - 4 = j * 4 + 3 by omega, ih]
    rfl
section
variable {W : World} {B i g n c j : Nat} {rs : List Ro} {t : TypeId}
theorem put1 {α : Type} {f : α → Value} {X : List α} (h : Owns W B rs) (hr : rs[i]? = some ⟨t, 1, .slice (some ⟨g, 0, none⟩) n c, n, X.map f⟩) (hj : j < X.length) (m : α) :
    Owns (W.setCell ⟨g, j, none⟩ (f m)) B (rs.set i ⟨t, 1, .slice (some ⟨g, 0, none⟩) n c, n, (X.set j m).map f⟩) := by
  have h1 := h.store hr (j := j) (by rw [List.length_map]; exact hj) (f m)
  rw [← List.map_set] at h1
  exact h1
theorem put2 {α : Type} {enc : α → List Value} {X : List α} (hK : ∀ a, (enc a).length = 2) (h : Owns W B rs) (hr : rs[i]? = some ⟨t, 2, .slice (some ⟨g, 0, none⟩) n c, n, X.flatMap enc⟩) (hj : j < X.length) {m : α} {u v : Value} (hm : enc m = [u, v]) :
    Owns ((W.setCell ⟨g, j * 2, none⟩ u).setCell ⟨g, j * 2 + 1, none⟩ v) B (rs.set i ⟨t, 2, .slice (some ⟨g, 0, none⟩) n c, n, (X.set j m).flatMap enc⟩) := by
  have hl : (X.flatMap enc).length = X.length * 2 := enc_len hK X
  have h1 := h.store hr (j := j * 2) (by omega) u
  have h2 := h1.store (set_at hr _) (j := j * 2 + 1) (by rw [List.length_set]; omega) v
  rw [List.set_set, flat_set2 hK hm X j hj] at h2
  exact h2
theorem put4 {α : Type} {enc : α → List Value} {X : List α} (hK : ∀ a, (enc a).length = 4) (h : Owns W B rs) (hr : rs[i]? = some ⟨t, 4, .slice (some ⟨g, 0, none⟩) n c, n, X.flatMap enc⟩) (hj : j < X.length) {m : α} {u v y z : Value} (hm : enc m = [u, v, y, z]) :
    Owns ((((W.setCell ⟨g, j * 4, none⟩ u).setCell ⟨g, j * 4 + 1, none⟩ v).setCell ⟨g, j * 4 + 2, none⟩ y).setCell ⟨g, j * 4 + 3, none⟩ z) B (rs.set i ⟨t, 4, .slice (some ⟨g, 0, none⟩) n c, n, (X.set j m).flatMap enc⟩) := by
  have hl : (X.flatMap enc).length = X.length * 4 := enc_len hK X
  have h1 := h.store hr (j := j * 4) (by omega) u
  have h2 := h1.store (set_at hr _) (j := j * 4 + 1) (by rw [List.length_set]; omega) v
  rw [List.set_set] at h2
  have h3 := h2.store (set_at hr _) (j := j * 4 + 2) (by rw [List.length_set, List.length_set]; omega) y
  rw [List.set_set] at h3
  have h4 := h3.store (set_at hr _) (j := j * 4 + 3) (by rw [List.length_set, List.length_set, List.length_set]; omega) z
  rw [List.set_set, flat_set4 hK hm X j hj] at h4
  exact h4
theorem see {α : Type} {enc : α → List Value} {K : Nat} {X : List α} (hK : ∀ a, (enc a).length = K) (h : Owns W B rs) (hr : rs[i]? = some ⟨t, K, .slice (some ⟨g, 0, none⟩) n c, n, X.flatMap enc⟩) (hj : j < X.length) (k : Nat) (u : Value) (hu : (enc X[j])[k]? = some u) :
    W.cell? ⟨g, j * K + k, none⟩ = some u := h.cell hr (enc_get hK X j _ (List.getElem?_eq_getElem hj) k u hu)
end
noncomputable def ovDf (i : Nat) : Int := mk8 (-1) i
def ovTf (i : Nat) : ByteArray := mkS (-1) (i : Nat)
set_option maxHeartbeats 1000000 in
noncomputable def ovCf (i : Nat) : Int × Int := mkGC (-1) (i : Int)
theorem markB_any (i : Nat) (w : World) : Calls Tryz.prog 49 #[.int .i64 (-1), .int .i64 i] w fun e w' => e = .returned (.int .u8 (ovDf i)) ∧ Below w.heap.size w w' := (markBytes_any (-1) i w).mono fun e w' ⟨h1, h2⟩ => ⟨h1, by rw [← h2]; exact Below.refl _ _⟩
set_option maxHeartbeats 4000000 in
theorem OverCode_any (g n c B i : Nat) (l : List (Int × Int)) (rs : List Ro) (w : World) (hn : n ≤ 140737488355264) (hl : l.length = n) (hr : rs[i]? = some ⟨66, 2, .slice (some ⟨g, 0, none⟩) n c, n, (l).flatMap cE⟩) (hO : Owns w B rs) (hB : B ≤ w.heap.size) :
    Calls Tryz.prog 15 #[.slice (some ⟨g, 0, none⟩) n c] w fun e w' => e = .returned (.tuple #[]) ∧ Owns w' B (rs.set i ⟨66, 2, .slice (some ⟨g, 0, none⟩) n c, n, (ovl ovCf n).flatMap cE⟩) ∧ Below B w w' := by
  have HL := hide_ hl
  have HR := hide_ hr
  have HBS := hide_ hB
  have HO := hide_ (show Owns w B (rs.set i ⟨66, 2, .slice (some ⟨g, 0, none⟩) n c, n, (ovl ovCf 0 ++ l.drop 0).flatMap cE⟩) by
    rw [show ovl ovCf 0 ++ l.drop 0 = l from rfl, set_same hr]; exact hO)
  clear hl hB hO hr
  go_enter Tryz.func15, Tryz.ntmps15
  go_wp2
  go_loopw [2] (fun i0 wr => ∃ j : Nat, j ≤ n ∧ i0 = .int .i64 j ∧ Hid (Owns wr B (rs.set i ⟨66, 2, .slice (some ⟨g, 0, none⟩) n c, n, (ovl ovCf j ++ l.drop j).flatMap cE⟩)) ∧ Below B w wr) (fun i0 _ => n - (intOf i0).toNat)
  case atStart => exact ⟨0, Nat.zero_le _, rfl, HO, Below.refl _ _⟩
  case round =>
    clear HO
    obtain ⟨j, hj, rfl, HO, hb⟩ := hrel
    have HB := hide_ hb
    have HSZ := hide_ hb.size
    clear hb
    by_cases hlt : j < n
    · obtain ⟨X, hX⟩ : ∃ X, X = ovl ovCf j ++ l.drop j := ⟨_, rfl⟩
      have hjl : j < l.length := by rw [HL.out]; exact hlt
      have hXl : j < X.length := by rw [hX]; exact ovl_lt _ _ hjl
      have hOj := HO.out
      rw [← hX] at hOj
      have hrk := set_at HR.out ⟨66, 2, .slice (some ⟨g, 0, none⟩) n c, n, (X).flatMap cE⟩
      obtain ⟨y0, hy0⟩ : ∃ y, y = X[j].1 := ⟨_, rfl⟩
      have x0 : wr.cell? ⟨g, j * 2, none⟩ = some (.int .u8 y0) := by rw [hy0]; exact see cE_len hOj hrk hXl 0 _ rfl
      have f0 : wr.frozen? ⟨g, j * 2, none⟩ = false := hOj.frozen hrk _
      obtain ⟨y1, hy1⟩ : ∃ y, y = X[j].2 := ⟨_, rfl⟩
      have x1 : wr.cell? ⟨g, j * 2 + 1, none⟩ = some (.int .u32 y1) := by rw [hy1]; exact see cE_len hOj hrk hXl 1 _ rfl
      have f1 : wr.frozen? ⟨g, j * 2 + 1, none⟩ = false := hOj.frozen hrk _
      have hST : ∀ W : World, Owns W B (rs.set i ⟨66, 2, .slice (some ⟨g, 0, none⟩) n c, n, (X).flatMap cE⟩) → Owns ((W.setCell ⟨g, j * 2, none⟩ (.int .u8 (mkGC (-1) (j : Int)).1)).setCell ⟨g, j * 2 + 1, none⟩ (.int .u32 (mkGC (-1) (j : Int)).2)) B (rs.set i ⟨66, 2, .slice (some ⟨g, 0, none⟩) n c, n, (ovl ovCf (j + 1) ++ l.drop (j + 1)).flatMap cE⟩) := fun W hW => by
        have h9 := put2 cE_len hW hrk hXl (m := ovCf j) rfl
        rw [List.set_set, hX, ovl_set _ _ hjl] at h9
        exact h9
      have hg1 := (hOj.base hrk).1
      have hg2 := (hOj.base hrk).2
      have HST := hide_ hST
      have HOJ := hide_ hOj
      have HMK := hide_ (fun W => markG_anyC (-1) (j : Int) W)
      obtain ⟨mk0, hmk0⟩ : ∃ mk, mk = (mkGC (-1) (j : Int)).1 := ⟨_, rfl⟩
      obtain ⟨mk1, hmk1⟩ : ∃ mk, mk = (mkGC (-1) (j : Int)).2 := ⟨_, rfl⟩
      rw [← hmk0, ← hmk1] at HMK HST
      clear hST hX hXl hOj hrk HO hjl hy0 hy1 hmk0 hmk1
      go_wp2_with fail
      refine (HMK.out _).mono ?_
      rintro e w7 ⟨rfl, hb7⟩
      have q0 := (hb7.cell (p := ⟨g, j * 2, none⟩) hg2).trans x0
      have r0 := (hb7.frozen (p := ⟨g, j * 2, none⟩) hg2).trans f0
      have q1 := (hb7.cell (p := ⟨g, j * 2 + 1, none⟩) hg2).trans x1
      have r1 := (hb7.frozen (p := ⟨g, j * 2 + 1, none⟩) hg2).trans f1
      have HB7 := hide_ hb7
      have HOW := hide_ (HST.out _ (HOJ.out.below hb7))
      clear x0 f0 x1 f1 hb7 HST HOJ
      go_wp2
      go_roundw
      case rel => exact ⟨j + 1, by omega, by go_num, HOW, ((((HB.out).trans (HB7.out.mono (Nat.le_trans HBS.out HSZ.out))).setCell (p := ⟨g, j * 2, none⟩) hg1 _).setCell (p := ⟨g, j * 2 + 1, none⟩) hg1 _)⟩
      case measure => simp [intOf]; omega
    · obtain rfl : j = n := by omega
      have hfl : l.drop j = [] := List.drop_eq_nil_of_le (by rw [HL.out]; exact Nat.le_refl _)
      have hOj := HO.out
      rw [hfl, List.append_nil] at hOj
      have HOJ := hide_ hOj
      clear hfl hOj HO
      go_wp2
      go_end0
      exact ⟨rfl, HOJ.out, HB.out⟩
set_option maxHeartbeats 4000000 in
theorem OverBytesR_any (g n c B i : Nat) (l : List (Int)) (rs : List Ro) (w : World) (hn : n ≤ 140737488355264) (hl : l.length = n) (hr : rs[i]? = some ⟨5, 1, .slice (some ⟨g, 0, none⟩) n c, n, (l).map (Value.int .u8)⟩) (hO : Owns w B rs) (hB : B ≤ w.heap.size) :
    Calls Tryz.prog 16 #[.slice (some ⟨g, 0, none⟩) n c] w fun e w' => e = .returned (.tuple #[]) ∧ Owns w' B (rs.set i ⟨5, 1, .slice (some ⟨g, 0, none⟩) n c, n, (ovl ovDf n).map (Value.int .u8)⟩) ∧ Below B w w' := by
  have HL := hide_ hl
  have HR := hide_ hr
  have HBS := hide_ hB
  have HO := hide_ (show Owns w B (rs.set i ⟨5, 1, .slice (some ⟨g, 0, none⟩) n c, n, (ovl ovDf 0 ++ l.drop 0).map (Value.int .u8)⟩) by
    rw [show ovl ovDf 0 ++ l.drop 0 = l from rfl, set_same hr]; exact hO)
  clear hl hB hO hr
  go_enter Tryz.func16, Tryz.ntmps16
  go_wp2
  go_loopw [2] (fun i0 wr => ∃ j : Nat, j ≤ n ∧ i0 = .int .i64 j ∧ Hid (Owns wr B (rs.set i ⟨5, 1, .slice (some ⟨g, 0, none⟩) n c, n, (ovl ovDf j ++ l.drop j).map (Value.int .u8)⟩)) ∧ Below B w wr) (fun i0 _ => n - (intOf i0).toNat)
  case atStart => exact ⟨0, Nat.zero_le _, rfl, HO, Below.refl _ _⟩
  case round =>
    clear HO
    obtain ⟨j, hj, rfl, HO, hb⟩ := hrel
    have HB := hide_ hb
    have HSZ := hide_ hb.size
    clear hb
    by_cases hlt : j < n
    · obtain ⟨X, hX⟩ : ∃ X, X = ovl ovDf j ++ l.drop j := ⟨_, rfl⟩
      have hjl : j < l.length := by rw [HL.out]; exact hlt
      have hXl : j < X.length := by rw [hX]; exact ovl_lt _ _ hjl
      have hOj := HO.out
      rw [← hX] at hOj
      have hrk := set_at HR.out ⟨5, 1, .slice (some ⟨g, 0, none⟩) n c, n, (X).map (Value.int .u8)⟩
      obtain ⟨y0, hy0⟩ : ∃ y, y = X[j] := ⟨_, rfl⟩
      have x0 : wr.cell? ⟨g, j, none⟩ = some (.int .u8 y0) := by rw [hy0]; exact hOj.cell hrk (by rw [List.getElem?_map, List.getElem?_eq_getElem hXl]; rfl)
      have f0 : wr.frozen? ⟨g, j, none⟩ = false := hOj.frozen hrk _
      have hST : ∀ W : World, Owns W B (rs.set i ⟨5, 1, .slice (some ⟨g, 0, none⟩) n c, n, (X).map (Value.int .u8)⟩) → Owns (W.setCell ⟨g, j, none⟩ (.int .u8 (ovDf j))) B (rs.set i ⟨5, 1, .slice (some ⟨g, 0, none⟩) n c, n, (ovl ovDf (j + 1) ++ l.drop (j + 1)).map (Value.int .u8)⟩) := fun W hW => by
        have h9 := put1 (f := (Value.int .u8)) hW hrk hXl (ovDf j)
        rw [List.set_set, hX, ovl_set _ _ hjl] at h9
        exact h9
      have hg1 := (hOj.base hrk).1
      have hg2 := (hOj.base hrk).2
      have HST := hide_ hST
      have HOJ := hide_ hOj
      have HMK := hide_ (fun W => markB_any j W)
      obtain ⟨mk, hmk⟩ : ∃ mk, mk = ovDf j := ⟨_, rfl⟩
      rw [← hmk] at HMK HST
      clear hmk
      clear hST hX hXl hOj hrk HO hjl hy0
      go_wp2_with fail
      refine (HMK.out _).mono ?_
      rintro e w7 ⟨rfl, hb7⟩
      have q0 := (hb7.cell (p := ⟨g, j, none⟩) hg2).trans x0
      have r0 := (hb7.frozen (p := ⟨g, j, none⟩) hg2).trans f0
      have HB7 := hide_ hb7
      have HOW := hide_ (HST.out _ (HOJ.out.below hb7))
      clear x0 f0 hb7 HST HOJ
      go_wp2
      go_roundw
      case rel => exact ⟨j + 1, by omega, by go_num, HOW, (((HB.out).trans (HB7.out.mono (Nat.le_trans HBS.out HSZ.out))).setCell (p := ⟨g, j, none⟩) hg1 _)⟩
      case measure => simp [intOf]; omega
    · obtain rfl : j = n := by omega
      have hfl : l.drop j = [] := List.drop_eq_nil_of_le (by rw [HL.out]; exact Nat.le_refl _)
      have hOj := HO.out
      rw [hfl, List.append_nil] at hOj
      have HOJ := hide_ hOj
      clear hfl hOj HO
      go_wp2
      go_end0
      exact ⟨rfl, HOJ.out, HB.out⟩
end Go.Proofs.YtikbegmodacopaaGreatDoor
