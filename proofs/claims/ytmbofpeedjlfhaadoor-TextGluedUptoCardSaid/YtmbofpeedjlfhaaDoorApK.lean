/-
  The walk of playpenkit.ApartTokens, other rows beside the lists.
-/
import Derived.PlainAid
import Derived.Test.YtmbofpeedjlfhaaDoorRowK
import Derived.Test.YtmbofpeedjlfhaaDoorKitT
namespace Go.Proofs.YtmbofpeedjlfhaaDoor
open Go.RowKit Go.PlainAid
set_option linter.unusedVariables false
set_option linter.unusedSimpArgs false

/-- a token: kind, place, text -/
abbrev TokV := Int × Int × ByteArray
def tCells (l : List TokV) : List Value := l.flatMap fun t => [.int .u8 t.1, .int .i64 t.2.1, .string t.2.2]
theorem tCells_len (l : List TokV) : (tCells l).length = l.length * 3 := by
  induction l with
  | nil => rfl
  | cons t l ih =>
    rw [show tCells (t :: l) = [.int .u8 t.1, .int .i64 t.2.1, .string t.2.2] ++ tCells l from rfl, List.length_append, ih, List.length_cons]
    simp only [List.length_cons, List.length_nil]
    omega
theorem tCells_app (a b : List TokV) : tCells (a ++ b) = tCells a ++ tCells b := by simp [tCells]
theorem tCells_tk (s : ByteArray) (l : List Tk) : tkCells s l = tCells (l.map fun t => (t.1, ((t.2.1 : Nat) : Int), s.extract t.2.1 t.2.2)) := by
  induction l with
  | nil => rfl
  | cons t l ih =>
    rw [List.map_cons, show tkCells s (t :: l) = [.int .u8 t.1, .int .i64 t.2.1, .string (s.extract t.2.1 t.2.2)] ++ tkCells s l from rfl, ih]
    rfl
theorem tCells_get : ∀ (l : List TokV) (k : Nat) (t : TokV), l[k]? = some t → (tCells l)[k * 3]? = some (.int .u8 t.1) ∧ (tCells l)[k * 3 + 1]? = some (.int .i64 t.2.1) ∧ (tCells l)[k * 3 + 2]? = some (.string t.2.2) := by
  intro l
  induction l with
  | nil => intro k t h; simp at h
  | cons a l ih =>
    intro k t h
    have e : tCells (a :: l) = [.int .u8 a.1, .int .i64 a.2.1, .string a.2.2] ++ tCells l := rfl
    cases k with
    | zero =>
      simp only [List.getElem?_cons_zero, Option.some.injEq] at h
      subst h
      rw [e]
      exact ⟨rfl, rfl, rfl⟩
    | succ k =>
      rw [List.getElem?_cons_succ] at h
      have h9 := ih k t h
      rw [e, show (k + 1) * 3 = 3 + k * 3 by omega]
      have key : ∀ j, ([Value.int .u8 a.1, .int .i64 a.2.1, .string a.2.2] ++ tCells l)[3 + j]? = (tCells l)[j]? := fun j => by
        rw [List.getElem?_append_right (by simp)]
        simp
      rw [key, show 3 + k * 3 + 1 = 3 + (k * 3 + 1) by omega, show 3 + k * 3 + 2 = 3 + (k * 3 + 2) by omega, key, key]
      exact h9
theorem tCells_set (X : List TokV) : ∀ (j : Nat) (t : TokV), (((tCells X).set (j * 3) (.int .u8 t.1)).set (j * 3 + 1) (.int .i64 t.2.1)).set (j * 3 + 2) (.string t.2.2) = tCells (X.set j t) := by
  induction X with
  | nil => intro j t; simp [tCells]
  | cons a r ih =>
    intro j t
    have e : tCells (a :: r) = .int .u8 a.1 :: .int .i64 a.2.1 :: .string a.2.2 :: tCells r := rfl
    rw [e]
    cases j with
    | zero => rfl
    | succ j =>
      rw [show (j + 1) * 3 = j * 3 + 1 + 1 + 1 by omega, show j * 3 + 1 + 1 + 1 + 1 = (j * 3 + 1) + 1 + 1 + 1 by omega, show j * 3 + 1 + 1 + 1 + 2 = (j * 3 + 2) + 1 + 1 + 1 by omega]
      simp only [List.set_cons_succ, ih j t]
      rfl
/-- the place in the mark of place i of list k -/
theorem markA_ex (k i : Int) : ∃ m : Int, ∀ w, Calls Tryd.prog 33 #[.int .i64 k, .int .i64 i] w fun e w' => e = .returned (.agg #[.int .u8 99, .int .i64 m, .string ⟨#[]⟩]) ∧ Below w.heap.size w w' := by
  apply Exists.intro
  intro w
  go_enter Tryd.func33, Tryd.ntmps33
  go_wp2
  exact bodyPost_ret (v := .agg #[.int .u8 99, .int .i64 (wrap64 (wrap64 (1000003 * wrap64 (k + 1)) + i)), .string ⟨#[]⟩]) (by simp [results, Tryd.results33, go_sem]) rfl ⟨rfl, (Below.refl _ w).alloc (Nat.le_refl _) _⟩
noncomputable def mkA (k i : Int) : Int := Classical.choose (markA_ex k i)
theorem markTokens_any (k i : Int) (w : World) : Calls Tryd.prog 33 #[.int .i64 k, .int .i64 i] w fun e w' => e = .returned (.agg #[.int .u8 99, .int .i64 (mkA k i), .string ⟨#[]⟩]) ∧ Below w.heap.size w w' := Classical.choose_spec (markA_ex k i) w
noncomputable def mkTok (k i : Int) : TokV := (99, mkA k i, ⟨#[]⟩)
noncomputable def marks3 (k : Int) (n : Nat) : List TokV := (List.range n).map fun i => mkTok k (i : Nat)
theorem marks3_succ (k : Int) (n : Nat) : marks3 k (n + 1) = marks3 k n ++ [mkTok k (n : Nat)] := by simp [marks3, List.range_succ]
theorem marks3_len (k : Int) (n : Nat) : (marks3 k n).length = n := by simp [marks3]

/-- a row of tokens -/
def rowB (vs : Nat → Value) (ns : Nat → Nat) (fs : Nat → List TokV) (j : Nat) : Ro := ⟨36, 3, vs j, ns j, tCells (fs j)⟩
def updF (f : Nat → List TokV) (k : Nat) (x : List TokV) : Nat → List TokV := fun j => if j = k then x else f j
/-- the lists, the first k of them marked -/
noncomputable def markF (ns : Nat → Nat) (fs : Nat → List TokV) (k : Nat) : Nat → List TokV := fun j => if j < k then marks3 ((j : Int) + 1) (ns j) else fs j
def lsRow (AL : Option Addr) (K cL : Nat) (vs : Nat → Value) : Ro := ⟨24, 1, .slice AL K cL, K, (List.range K).map vs⟩
theorem ls_some {W : World} {B K cL : Nat} {AL : Option Addr} {vs : Nat → Value} {r : Nat → Ro} {ex : List Ro} (h : Owns W B (rowsF K r ++ lsRow AL K cL vs :: ex)) (hK : 0 < K) : ∃ G, AL = some ⟨G, 0, none⟩ := by
  have h1 := h.at_ (i := K + 0) (rowsF_ex r (lsRow AL K cL vs) ex 0)
  obtain ⟨g, c', h4⟩ := ownsRow_some h1 hK
  have h5 : Value.slice AL K cL = .slice (some ⟨g, 0, none⟩) K c' := h4
  injection h5 with h5
  exact ⟨g, h5⟩
theorem row_upd {K k : Nat} {vs : Nat → Value} {ns : Nat → Nat} {fs : Nat → List TokV} {x : List TokV} (_hk : k < K) : rowsF K (updR (rowB vs ns fs) k ⟨36, 3, vs k, ns k, tCells x⟩) = rowsF K (rowB vs ns (updF fs k x)) :=
  rowsF_congr fun j _ => by
    unfold updR rowB updF
    by_cases h : j = k
    · subst h; simp
    · simp [h]
theorem mark_step (ns : Nat → Nat) (fs : Nat → List TokV) (k : Nat) : markF ns fs (k + 1) = updF (markF ns fs k) k (marks3 ((k : Int) + 1) (ns k)) := by
  funext j
  unfold markF updF
  dsimp only
  by_cases h : j = k
  · subst h; simp
  · by_cases h2 : j < k
    · rw [if_pos (by omega), if_neg h, if_pos h2]
    · rw [if_neg (by omega), if_neg h, if_neg h2]
theorem upd_self (f : Nat → List TokV) (k : Nat) : updF f k (f k) = f := by
  funext j
  unfold updF
  by_cases h : j = k
  · subst h; simp
  · rw [if_neg h]
theorem upd_upd (f : Nat → List TokV) (k : Nat) (x y : List TokV) : updF (updF f k x) k y = updF f k y := by
  funext j
  unfold updF
  by_cases h : j = k <;> simp [h]
theorem over_set3 (q : Int) (xs : List TokV) (j : Nat) (h : j < xs.length) : (marks3 q j ++ xs.drop j).set j (mkTok q j) = marks3 q (j + 1) ++ xs.drop (j + 1) := by
  rw [List.drop_eq_getElem_cons h, List.set_append_right _ _ (by rw [marks3_len]; omega), marks3_len, Nat.sub_self, List.set_cons_zero, marks3_succ]
  simp
theorem apart_row {K k : Nat} {vs : Nat → Value} {ns : Nat → Nat} {f : Nat → List TokV} {ex : List Ro} (hk : k < K) (X : List TokV) {g n c1 : Nat} (hv : vs k = .slice (some ⟨g, 0, none⟩) n c1) (hn : n = ns k) :
    (rowsF K (rowB vs ns (updF f k X)) ++ ex)[k]? = some ⟨36, 3, .slice (some ⟨g, 0, none⟩) n c1, n, tCells X⟩ := by
  rw [rowsF_get _ _ hk]
  unfold rowB
  rw [hv, ← hn]
  simp [updF]
theorem apart_store {W : World} {B K k : Nat} {vs : Nat → Value} {ns : Nat → Nat} {f : Nat → List TokV} {ex : List Ro} (hk : k < K) (X : List TokV) {g n c1 j : Nat} (hv : vs k = .slice (some ⟨g, 0, none⟩) n c1) (hn : n = ns k)
    (h : Owns W B (rowsF K (rowB vs ns (updF f k X)) ++ ex)) (hj : j < X.length) (m : TokV) : Owns (((W.setCell ⟨g, j * 3, none⟩ (.int .u8 m.1)).setCell ⟨g, j * 3 + 1, none⟩ (.int .i64 m.2.1)).setCell ⟨g, j * 3 + 2, none⟩ (.string m.2.2)) B (rowsF K (rowB vs ns (updF f k (X.set j m))) ++ ex) := by
  have hl : (tCells X).length = X.length * 3 := tCells_len X
  have hr := apart_row (ex := ex) (f := f) hk X hv hn
  have hlen : k < (rowsF K (rowB vs ns (updF f k X)) ++ ex).length := (List.getElem?_eq_some_iff.1 hr).1
  have h1 := h.store hr (j := j * 3) (by omega) (.int .u8 m.1)
  have h2 := h1.store (i := k) (by rw [List.getElem?_set_self hlen]) (j := j * 3 + 1) (by rw [List.length_set]; omega) (.int .i64 m.2.1)
  rw [List.set_set] at h2
  have h3 := h2.store (i := k) (by rw [List.getElem?_set_self hlen]) (j := j * 3 + 2) (by rw [List.length_set, List.length_set]; omega) (.string m.2.2)
  rw [List.set_set, tCells_set X j m, rowsF_set _ _ _ hk] at h3
  have e : rowsF K (updR (rowB vs ns (updF f k X)) k ⟨36, 3, .slice (some ⟨g, 0, none⟩) n c1, n, tCells (X.set j m)⟩) = rowsF K (rowB vs ns (updF f k (X.set j m))) := by
    rw [← upd_upd f k X (X.set j m), ← row_upd hk, hv, hn]
  rw [e] at h3
  exact h3
/-! ### the second phase -/
noncomputable def mkU (j n : Nat) : List Value := tCells (marks3 ((j : Int) + 1) n)
theorem mkU_succ (j n : Nat) : mkU j (n + 1) = mkU j n ++ [.int .u8 99, .int .i64 (mkA ((j : Int) + 1) n), .string ⟨#[]⟩] := by unfold mkU; rw [marks3_succ, tCells_app]; rfl
theorem mkU_get (j n i : Nat) (h : i < n) : (mkU j n)[i * 3]? = some (.int .u8 99) ∧ (mkU j n)[i * 3 + 1]? = some (.int .i64 (mkA ((j : Int) + 1) i)) ∧ (mkU j n)[i * 3 + 2]? = some (.string ⟨#[]⟩) := by
  unfold mkU
  exact tCells_get (marks3 ((j : Int) + 1) n) i (mkTok ((j : Int) + 1) i) (by simp [marks3, h])
/-- some row holds what stood there -/
def OldOk (rs : List Ro) (v : Value) (ys : List Value) : Prop := ∃ r ∈ rs, r.e = 36 ∧ r.size = 3 ∧ r.v.ownBlock = v.ownBlock ∧ ys <+: r.xs
theorem OldOk.set {rs : List Ro} {v : Value} {ys : List Value} (h : OldOk rs v ys) {k : Nat} {old : Ro} (hk : rs[k]? = some old) (new : Ro)
    (hne : old.e ≠ 36 ∨ (new.e = 36 ∧ new.size = 3 ∧ new.v.ownBlock = old.v.ownBlock ∧ old.xs <+: new.xs)) : OldOk (rs.set k new) v ys := by
  obtain ⟨r, hr, h1, h2, h3, h4⟩ := h
  obtain ⟨i, hi⟩ := List.mem_iff_getElem?.1 hr
  have hkl : k < rs.length := (List.getElem?_eq_some_iff.1 hk).1
  by_cases hik : k = i
  · subst hik
    rw [hk] at hi
    injection hi with hi
    subst hi
    rcases hne with hne | ⟨g1, g2, g3, g4⟩
    · exact absurd h1 hne
    · exact ⟨new, List.mem_iff_getElem?.2 ⟨k, by rw [List.getElem?_set_self hkl]⟩, g1, g2, g3.trans h3, h4.trans g4⟩
  · exact ⟨r, List.mem_iff_getElem?.2 ⟨i, by rw [List.getElem?_set_ne hik]; exact hi⟩, h1, h2, h3, h4⟩
theorem OldOk.moved {rs : List Ro} {v : Value} {ys : List Value} (h : OldOk rs v ys) {k : Nat} {old : Ro} (hk : rs[k]? = some old) (new : Ro) : OldOk (rs.set k new ++ [old]) v ys := by
  obtain ⟨r, hr, hh⟩ := h
  obtain ⟨i, hi⟩ := List.mem_iff_getElem?.1 hr
  by_cases hik : k = i
  · subst hik
    rw [hk] at hi
    injection hi with hi
    subst hi
    exact ⟨old, by simp, hh⟩
  · exact ⟨r, List.mem_append_left _ (List.mem_iff_getElem?.2 ⟨i, by rw [List.getElem?_set_ne hik]; exact hi⟩), hh⟩
theorem OldOk.cell {w : World} {B : Nat} {rs : List Ro} {g n c j : Nat} {ys : List Value} {u : Value} (h : OldOk rs (.slice (some ⟨g, 0, none⟩) n c) ys) (hO : Owns w B rs) (hu : ys[j]? = some u) : w.cell? ⟨g, j, none⟩ = some u := by
  obtain ⟨r, hr, h1, h2, h3, h4⟩ := h
  have hrow := hO.1 r hr
  rw [h1, h2] at hrow
  have hx : r.xs[j]? = some u := by
    obtain ⟨t, ht⟩ := h4
    rw [← ht, List.getElem?_append_left (List.getElem?_eq_some_iff.1 hu).1]
    exact hu
  have := hrow.cells (g := g) (by rw [h3]; rfl) j u hx
  have e1 : (⟨g, 0, none⟩ : Addr).add j = ⟨g, j, none⟩ := by unfold Addr.add; split <;> simp_all
  rwa [e1] at this
def gsRow (v : Value) (k : Nat) (r : Nat → Ro) : Ro := ⟨24, 1, v, k, (List.range k).map fun j => (r j).v⟩
/-- the rows while the first k lists are grown, the next one by i -/
def Pat (K : Nat) (vs : Nat → Value) (ns : Nat → Nat) (r : Nat → Ro) (k i : Nat) : Prop :=
  ∀ j, j < K → r j = ⟨36, 3, (r j).v, ns j + (if j < k then 64 else if j = k then i else 0), mkU j (ns j + (if j < k then 64 else if j = k then i else 0))⟩ ∧ (k < j ∨ (k = j ∧ i = 0) → (r j).v = vs j)
theorem Pat.at_ {K : Nat} {vs : Nat → Value} {ns : Nat → Nat} {r : Nat → Ro} {k i : Nat} (h : Pat K vs ns r k i) (hk : k < K) : r k = ⟨36, 3, (r k).v, ns k + i, mkU k (ns k + i)⟩ := by
  have := (h k hk).1
  rw [if_neg (by omega), if_pos rfl] at this
  exact this
theorem Pat.step {K : Nat} {vs : Nat → Value} {ns : Nat → Nat} {r : Nat → Ro} {k i : Nat} (h : Pat K vs ns r k i) (v' : Value) : Pat K vs ns (updR r k ⟨36, 3, v', ns k + i + 1, mkU k (ns k + i + 1)⟩) k (i + 1) := by
  intro j hj
  unfold updR
  by_cases e : j = k
  · subst e
    rw [if_pos rfl, if_neg (by omega), if_pos rfl]
    exact ⟨rfl, fun x => by omega⟩
  · rw [if_neg e]
    have := h j hj
    rw [if_neg e] at this ⊢
    exact ⟨this.1, fun x => this.2 (by omega)⟩
theorem Pat.next {K : Nat} {vs : Nat → Value} {ns : Nat → Nat} {r : Nat → Ro} {k : Nat} (h : Pat K vs ns r k 64) : Pat K vs ns r (k + 1) 0 := by
  intro j hj
  have := h j hj
  by_cases e : j < k
  · rw [if_pos e] at this
    rw [if_pos (by omega)]
    exact ⟨this.1, fun x => by omega⟩
  · by_cases e2 : j = k
    · subst e2
      rw [if_neg e, if_pos rfl] at this
      rw [if_pos (by omega)]
      exact ⟨this.1, fun x => by omega⟩
    · rw [if_neg e, if_neg e2] at this
      rw [if_neg (by omega)]
      refine ⟨?_, fun x => this.2 (by omega)⟩
      have e3 : (if j = k + 1 then 0 else 0) = 0 := by split <;> rfl
      rw [e3]
      exact this.1
theorem gsRow_upd (v : Value) (k : Nat) (r : Nat → Ro) (x : Ro) : gsRow v k (updR r k x) = gsRow v k r := by
  unfold gsRow
  congr 1
  exact List.map_congr_left (fun j hj => by unfold updR; rw [if_neg (by have := List.mem_range.1 hj; omega)])
theorem gsRow_next (v : Value) (k : Nat) (r : Nat → Ro) : (⟨24, 1, v, k + 1, ((List.range k).map fun j => (r j).v) ++ [(r k).v]⟩ : Ro) = gsRow v (k + 1) r := by
  unfold gsRow
  rw [List.range_succ]
  simp
theorem rowsF_set2 {K : Nat} (r : Nat → Ro) (a b x : Ro) (ex : List Ro) : (rowsF K r ++ a :: b :: ex).set (K + 1) x = rowsF K r ++ a :: x :: ex := by
  rw [List.set_append_right _ _ (by rw [rowsF_len]; omega), rowsF_len, Nat.add_sub_cancel_left]
  rfl
theorem Pat.done {K : Nat} {vs : Nat → Value} {ns : Nat → Nat} {r : Nat → Ro} {j : Nat} (h : Pat K vs ns r K 0) (hj : j < K) : r j = ⟨36, 3, (r j).v, ns j + 64, mkU j (ns j + 64)⟩ := by
  have := (h j hj).1
  rw [if_pos hj] at this
  exact this
theorem apart_last {W : World} {B m q G n c cL : Nat} {vs : Nat → Value} {ns : Nat → Nat} {r : Nat → Ro} {ex : List Ro} {gv : Value} {A : Option Addr}
    (hO : Owns W B (rowsF m r ++ lsRow (some ⟨G, 0, none⟩) m cL vs :: gsRow gv m r :: ex)) (hP : Pat m vs ns r m 0) (hq : q < m) (hOL : OldOk (rowsF m r ++ lsRow (some ⟨G, 0, none⟩) m cL vs :: gsRow gv m r :: ex) (vs q) (mkU q (ns q)))
    (hv : vs q = .slice A n c) (hn : n = ns q) (hA : 0 < n → ∃ g, A = some ⟨g, 0, none⟩) :
    ∃ g' cg g5 c5, gv = .slice (some ⟨g', 0, none⟩) m cg ∧ W.cell? ⟨g', q, none⟩ = some (.slice (some ⟨g5, 0, none⟩) (n + 64) c5) ∧ W.cell? ⟨G, q, none⟩ = some (.slice A n c) ∧ g' < W.heap.size ∧ G < W.heap.size ∧ g5 < W.heap.size ∧
      (∀ i, i < n + 64 → W.cell? ⟨g5, i * 3, none⟩ = some (.int .u8 99) ∧ W.cell? ⟨g5, i * 3 + 1, none⟩ = some (.int .i64 (mkA ((q : Int) + 1) i)) ∧ W.cell? ⟨g5, i * 3 + 2, none⟩ = some (.string ⟨#[]⟩)) ∧
      (∀ i, i < n → ∃ g, A = some ⟨g, 0, none⟩ ∧ g < W.heap.size ∧ W.cell? ⟨g, i * 3, none⟩ = some (.int .u8 99) ∧ W.cell? ⟨g, i * 3 + 1, none⟩ = some (.int .i64 (mkA ((q : Int) + 1) i)) ∧ W.cell? ⟨g, i * 3 + 2, none⟩ = some (.string ⟨#[]⟩)) := by
  subst hn
  have hgs : (rowsF m r ++ lsRow (some ⟨G, 0, none⟩) m cL vs :: gsRow gv m r :: ex)[m + 1]? = some (gsRow gv m r) := rowsF_ex r (lsRow (some ⟨G, 0, none⟩) m cL vs) (gsRow gv m r :: ex) 1
  obtain ⟨g', cg, hgv⟩ := ownsRow_some (hO.at_ hgs) (show 0 < m by omega)
  have hgv' : gv = .slice (some ⟨g', 0, none⟩) m cg := hgv
  subst hgv'
  have hrow := rowsF_get r (lsRow (some ⟨G, 0, none⟩) m cL vs :: gsRow (.slice (some ⟨g', 0, none⟩) m cg) m r :: ex) hq
  have hd := hP.done hq
  rw [hd] at hrow
  obtain ⟨g5, c5, h5⟩ := ownsRow_some (hO.at_ hrow) (show 0 < ns q + 64 by omega)
  have h6 : (r q).v = .slice (some ⟨g5, 0, none⟩) (ns q + 64) c5 := h5
  rw [h6] at hrow
  have hls := rowsF_ex (K := m) r (lsRow (some ⟨G, 0, none⟩) m cL vs) (gsRow (.slice (some ⟨g', 0, none⟩) m cg) m r :: ex) 0
  refine ⟨g', cg, g5, c5, rfl, ?_, ?_, (hO.base hgs).2, (hO.base (i := m + 0) hls).2, (hO.base hrow).2, ?_, ?_⟩
  · have := hO.cell hgs (j := q) (u := (r q).v) (by simp [hq])
    rw [this, h6]
  · have := hO.cell (i := m + 0) hls (j := q) (u := vs q) (by simp [hq])
    rw [this, hv]
  · intro i hi
    obtain ⟨t0, t1, t2⟩ := mkU_get q _ i hi
    exact ⟨hO.cell hrow t0, hO.cell hrow t1, hO.cell hrow t2⟩
  · intro i hi
    obtain ⟨g, rfl⟩ := hA (by omega)
    rw [hv] at hOL
    obtain ⟨t0, t1, t2⟩ := mkU_get q _ i hi
    refine ⟨g, rfl, ?_, hOL.cell hO t0, hOL.cell hO t1, hOL.cell hO t2⟩
    exact World.block_lt_of_cell? W _ (hOL.cell hO t0)
end Go.Proofs.YtmbofpeedjlfhaaDoor
namespace Go.Proofs.YtmbofpeedjlfhaaDoor
open Go.RowKit Go.PlainAid Go.BigFrame
set_option linter.unusedVariables false
set_option linter.unusedSimpArgs false

theorem below_draws2 {B : Nat} {a w : World} (h : Below B a w) (k : Nat) : Below B a (w.drewN k) := ⟨h.os, h.tape, h.output, h.size, h.block⟩
theorem apk_info : (Tryd.prog.info? 24).map (fun i => (i.zero, i.size, i.bytes)) = some (some (.slice none 0 0), 1, 24) := by kernel_rfl
set_option maxRecDepth 100000 in
set_option maxHeartbeats 4000000 in
theorem ApartK_any (AL : Option Addr) (K cL B : Nat) (vs : Nat → Value) (ns : Nat → Nat) (fs : Nat → List TokV) (ex0 : List Ro) (w : World) (hO : Owns w B (rowsF K (rowB vs ns fs) ++ lsRow AL K cL vs :: ex0)) (hlen : ∀ j, j < K → (fs j).length = ns j) (hB : B ≤ w.heap.size)
    (hn : ∀ j, j < K → ns j ≤ 1048576) (hK : K ≤ 1048576) :
    Calls Tryd.prog 12 #[.slice AL K cL] w fun e w' => e = .returned (.bool true) ∧ Owns w' B ex0 ∧ Below B w w' := by
  obtain ⟨i0, hi0, hz0, hz1, hz2⟩ := info_parts token_info
  obtain ⟨i1, hi1, hy0, hy1, hy2⟩ := info_parts apk_info
  have HLEN := hide_ hlen
  have HN := hide_ hn
  have HBS := hide_ hB
  clear hlen hn
  go_enter Tryd.func12, Tryd.ntmps12
  go_wp2
  go_loopw [3] (fun i wr => ∃ k : Nat, k ≤ K ∧ i = .int .i64 k ∧ Owns wr B (rowsF K (rowB vs ns (markF ns fs k)) ++ lsRow AL K cL vs :: ex0) ∧ Below B w wr) (fun i _ => K - (intOf i).toNat)
  case atStart =>
    refine ⟨0, Nat.zero_le _, rfl, ?_, Below.refl _ _⟩
    have : markF ns fs 0 = fs := by funext j; simp [markF]
    rw [this]
    exact hO
  case round =>
    obtain ⟨k, hk, rfl, hOk, hb⟩ := hrel
    by_cases hlt : k < K
    · obtain ⟨G, rfl⟩ := ls_some hOk (show 0 < K by omega)
      have hnk := HN.out k hlt
      obtain ⟨A0, c0, hv0, hc0, hc1⟩ := ownsRow_slice (hOk.at_ (rowsF_get (rowB vs ns (markF ns fs k)) (lsRow (some ⟨G, 0, none⟩) K cL vs :: ex0) hlt))
      have hv1 : vs k = .slice A0 (ns k) c0 := hv0
      have hc0' : ns k ≤ c0 := hc0
      have hc1' : c0 ≤ maxLen := hc1
      obtain ⟨n, hnn⟩ : ∃ n, n = ns k := ⟨_, rfl⟩
      rw [← hnn] at hnk hc0' hv1
      have HNN := hide_ hnn
      have HV := hide_ hv1
      clear hv0 hv1 hc0 hc1 hnn hO
      have hls : ∀ (W : World) (f : Nat → List TokV), Owns W B (rowsF K (rowB vs ns f) ++ lsRow (some ⟨G, 0, none⟩) K cL vs :: ex0) → W.cell? ⟨G, k, none⟩ = some (.slice A0 n c0) ∧ G < W.heap.size := fun W f h => by
        have := h.cell (i := K + 0) (rowsF_ex (rowB vs ns f) (lsRow (some ⟨G, 0, none⟩) K cL vs) ex0 0) (j := k) (u := vs k) (by simp [hlt])
        exact ⟨by rw [this, HV.out], (h.base (i := K + 0) (rowsF_ex (rowB vs ns f) (lsRow (some ⟨G, 0, none⟩) K cL vs) ex0 0)).2⟩
      have HLS := hide_ hls
      obtain ⟨hcl, hGl⟩ := hls wr _ hOk
      clear hls
      go_wp2
      go_loopw [4] (fun i wr => ∃ j : Nat, j ≤ n ∧ i = .int .i64 j ∧ Owns wr B (rowsF K (rowB vs ns (updF (markF ns fs k) k (marks3 ((k : Int) + 1) j ++ (fs k).drop j))) ++ lsRow (some ⟨G, 0, none⟩) K cL vs :: ex0) ∧ Below B w wr) (fun i _ => n - (intOf i).toNat)
      case atStart =>
        refine ⟨0, Nat.zero_le _, rfl, ?_, hb⟩
        have e1 : marks3 ((k : Int) + 1) 0 ++ (fs k).drop 0 = markF ns fs k k := by simp [marks3, markF]
        rw [e1, upd_self]
        exact hOk
      case round =>
        obtain ⟨j, hj, rfl, hOj, hbj⟩ := hrel
        obtain ⟨hcj, hGj⟩ := HLS.out wr _ hOj
        by_cases hlt2 : j < n
        · have hrow := hOj.at_ (rowsF_get (rowB vs ns (updF (markF ns fs k) k (marks3 ((k : Int) + 1) j ++ (fs k).drop j))) (lsRow (some ⟨G, 0, none⟩) K cL vs :: ex0) hlt)
          obtain ⟨g, c1, hv2⟩ := ownsRow_some hrow (show 0 < ns k by rw [← HNN.out]; omega)
          have hv3 : vs k = .slice (some ⟨g, 0, none⟩) (ns k) c1 := hv2
          rw [HV.out] at hv3
          injection hv3 with e1 e2 e3
          subst e1 e3
          obtain ⟨X, hX⟩ : ∃ X, X = marks3 ((k : Int) + 1) j ++ (fs k).drop j := ⟨_, rfl⟩
          have hjf : j < (fs k).length := by rw [HLEN.out k hlt, ← HNN.out]; exact hlt2
          have hXl : j < X.length := by rw [hX, List.length_append, marks3_len, List.length_drop]; omega
          rw [← hX] at hOj
          have hrk := apart_row (ex := lsRow (some ⟨G, 0, none⟩) K cL vs :: ex0) (f := markF ns fs k) hlt X HV.out HNN.out
          obtain ⟨t0, t1, t2⟩ := tCells_get X j _ (List.getElem?_eq_getElem hXl)
          have x0 := hOj.cell hrk t0
          have x1 := hOj.cell hrk t1
          have x2 := hOj.cell hrk t2
          have f0 := hOj.frozen hrk (j * 3)
          have f1 := hOj.frozen hrk (j * 3 + 1)
          have f2 := hOj.frozen hrk (j * 3 + 2)
          obtain ⟨y0, hy0'⟩ : ∃ y, y = X[j].1 := ⟨_, rfl⟩
          obtain ⟨y1, hy1'⟩ : ∃ y, y = X[j].2.1 := ⟨_, rfl⟩
          obtain ⟨y2, hy2'⟩ : ∃ y, y = X[j].2.2 := ⟨_, rfl⟩
          rw [← hy0'] at x0
          rw [← hy1'] at x1
          rw [← hy2'] at x2
          clear hy0' hy1' hy2'
          have hST : ∀ W : World, Owns W B (rowsF K (rowB vs ns (updF (markF ns fs k) k X)) ++ lsRow (some ⟨G, 0, none⟩) K cL vs :: ex0) → Owns (((W.setCell ⟨g, j * 3, none⟩ (.int .u8 99)).setCell ⟨g, j * 3 + 1, none⟩ (.int .i64 (mkA ((k : Int) + 1) j))).setCell ⟨g, j * 3 + 2, none⟩ (.string ⟨#[]⟩)) B (rowsF K (rowB vs ns (updF (markF ns fs k) k (marks3 ((k : Int) + 1) (j + 1) ++ (fs k).drop (j + 1)))) ++ lsRow (some ⟨G, 0, none⟩) K cL vs :: ex0) := fun W hW => by
            have := apart_store hlt X HV.out HNN.out hW hXl (mkTok ((k : Int) + 1) j)
            rw [hX, over_set3 _ _ _ hjf] at this
            exact this
          have hgb := hOj.base hrk
          have HST := hide_ hST
          have HOJ := hide_ hOj
          have HBJ := hide_ hbj
          have HSZ := hide_ hbj.size
          have HMK := hide_ (fun W => markTokens_any ((k : Int) + 1) (j : Int) W)
          obtain ⟨mk, hmk⟩ : ∃ mk, mk = mkA ((k : Int) + 1) (j : Int) := ⟨_, rfl⟩
          rw [← hmk] at HMK HST
          have hw1 : IntKind.i64.wrap ((k : Int) + 1) = (k : Int) + 1 := by rw [IntKind.wrap_i64]; omega
          have hg1 := hgb.1
          have hg2 := hgb.2
          clear hST hX hXl hrow hv2 hOk hOj hcl hrk t0 t1 t2 hb hbj hmk hgb hGl e2
          go_upto_region 7 with (fail)
          go_region_with (go_at_call 33; refine (HMK.out _).mono ?_; rintro e w7 ⟨rfl, hb7⟩; have q1 := (hb7.cell (p := ⟨G, k, none⟩) hGj).trans hcj; have q2 := (hb7.cell (p := ⟨g, j * 3, none⟩) hg2).trans x0; have q3 := (hb7.cell (p := ⟨g, j * 3 + 1, none⟩) hg2).trans x1; have q4 := (hb7.cell (p := ⟨g, j * 3 + 2, none⟩) hg2).trans x2; have q5 := (hb7.frozen (p := ⟨g, j * 3, none⟩) hg2).trans f0; have q6 := (hb7.frozen (p := ⟨g, j * 3 + 1, none⟩) hg2).trans f1; have q7 := (hb7.frozen (p := ⟨g, j * 3 + 2, none⟩) hg2).trans f2; have HB7 := hide_ hb7; clear hb7)
          all_goals
            clear hcj x0 x1 x2 f0 f1 f2 q1 q2 q3 q4 q5 q6 q7
            go_wp2
            go_roundw
            case rel => exact ⟨j + 1, by omega, by go_num, HST.out _ (HOJ.out.drew.below HB7.out), ((((HBJ.out.drew).trans (HB7.out.mono (Nat.le_trans HBS.out HSZ.out))).setCell (p := ⟨g, j * 3, none⟩) hg1 _).setCell (p := ⟨g, j * 3 + 1, none⟩) hg1 _).setCell (p := ⟨g, j * 3 + 2, none⟩) hg1 _⟩
            case measure => simp [intOf]; omega
        · obtain rfl : j = n := by omega
          have hfl : (fs k).drop j = [] := List.drop_eq_nil_of_le (by rw [HLEN.out k hlt, ← HNN.out]; omega)
          rw [hfl, List.append_nil] at hOj
          have hms := mark_step ns fs k
          rw [← HNN.out] at hms
          have HMS := hide_ hms
          clear hfl hms hcl hOk
          go_wp2
          go_roundw
          case rel =>
            refine ⟨k + 1, by omega, by go_num, ?_, hbj⟩
            rw [HMS.out]
            exact hOj
          case measure => simp [intOf]; omega
    · obtain rfl : k = K := by omega
      have hP0 : Pat k vs ns (rowB vs ns (markF ns fs k)) 0 0 := fun j hj => by
        have e3 : (if j < 0 then 64 else if j = 0 then 0 else 0) = 0 := by split <;> (try split) <;> first | rfl | omega
        rw [e3, Nat.add_zero]
        refine ⟨?_, fun _ => rfl⟩
        unfold rowB mkU markF
        rw [if_pos hj]
      have hold : ∀ j, j < k → OldOk (rowsF k (rowB vs ns (markF ns fs k)) ++ lsRow AL k cL vs :: gsRow (.slice none 0 0) 0 (rowB vs ns (markF ns fs k)) :: ex0) (vs j) (mkU j (ns j)) := fun j hj =>
        ⟨rowB vs ns (markF ns fs k) j, List.mem_of_getElem? (rowsF_get _ _ hj), rfl, rfl, rfl, by unfold rowB mkU markF; rw [if_pos hj]; exact List.prefix_refl _⟩
      have hvs : ∀ j, j < k → ∃ A c, vs j = .slice A (ns j) c ∧ (0 < ns j → ∃ g, A = some ⟨g, 0, none⟩) := fun j hj => by
        have h1 := hOk.at_ (rowsF_get (rowB vs ns (markF ns fs k)) (lsRow AL k cL vs :: ex0) hj)
        obtain ⟨A, c, h2, _, _⟩ := ownsRow_slice h1
        have h3 : vs j = .slice A (ns j) c := h2
        refine ⟨A, c, h3, fun h0 => ?_⟩
        obtain ⟨g, c', h4⟩ := ownsRow_some h1 h0
        have h5 : vs j = .slice (some ⟨g, 0, none⟩) (ns j) c' := h4
        rw [h3] at h5
        injection h5 with h5
        exact ⟨g, h5⟩
      have HVS := hide_ hvs
      clear hvs
      have hO2 : Owns wr B (rowsF k (rowB vs ns (markF ns fs k)) ++ lsRow AL k cL vs :: gsRow (.slice none 0 0) 0 (rowB vs ns (markF ns fs k)) :: ex0) := by
        have h1 := hOk.nilrow 24 1
        exact h1.swap (by
          rw [List.append_assoc, List.cons_append]
          refine List.Perm.append_left _ (List.Perm.cons _ ?_)
          exact List.perm_append_singleton _ _)
      have HP0 := hide_ hP0
      have HOLD := hide_ hold
      have HO2 := hide_ hO2
      have HB2 := hide_ hb
      clear hP0 hold hOk hO hO2 hb
      go_wp2
      go_loopw [5, 6] (fun gv i wr => ∃ (m : Nat) (r : Nat → Ro) (ex : List Ro), m ≤ k ∧ i = .int .i64 m ∧ Hid (Pat k vs ns r m 0) ∧ Hid (Owns wr B (rowsF k r ++ lsRow AL k cL vs :: gsRow gv m r :: (ex0 ++ ex))) ∧ Hid (∀ j, j < k → OldOk (rowsF k r ++ lsRow AL k cL vs :: gsRow gv m r :: (ex0 ++ ex)) (vs j) (mkU j (ns j))) ∧ Below B w wr) (fun _ i _ => k - (intOf i).toNat)
      case atStart => exact ⟨0, _, [], Nat.zero_le _, rfl, HP0, hide_ (by rw [List.append_nil]; exact HO2.out), hide_ (by rw [List.append_nil]; exact HOLD.out), HB2.out⟩
      case round =>
        clear HO2 HP0 HOLD HB2
        obtain ⟨m, r, ex, hm, rfl, HP, HO, HOL, hb2⟩ := hrel
        have HB2 := hide_ hb2
        by_cases hlt : m < k
        · obtain ⟨G, rfl⟩ := ls_some HO.out (show 0 < k by omega)
          have hnm := HN.out m hlt
          have hv1 := (HP.out m hlt).2 (.inr ⟨rfl, rfl⟩)
          obtain ⟨A0, c0, hv0, hc0, hc1⟩ := ownsRow_slice (HO.out.at_ (rowsF_get r _ hlt))
          have hrm := HP.out.at_ hlt
          have hv2 : (r m).v = .slice A0 (ns m) c0 := by rw [hv0, hrm]; rfl
          have hv3 : vs m = .slice A0 (ns m) c0 := by rw [← hv1, hv2]
          obtain ⟨n, hnn⟩ : ∃ n, n = ns m := ⟨_, rfl⟩
          rw [← hnn] at hv2 hv3 hnm
          have HNN := hide_ hnn
          have HV2 := hide_ hv2
          have HV3 := hide_ hv3
          have hcl : ∀ (W : World) (r : Nat → Ro) (gv : Value) (q : Nat) (ex : List Ro), Owns W B (rowsF k r ++ lsRow (some ⟨G, 0, none⟩) k cL vs :: gsRow gv q r :: ex) → W.cell? ⟨G, m, none⟩ = some (.slice A0 n c0) ∧ G < W.heap.size := fun W r gv q ex h => by
            have h9 := rowsF_ex (K := k) r (lsRow (some ⟨G, 0, none⟩) k cL vs) (gsRow gv q r :: ex) 0
            have := h.cell (i := k + 0) h9 (j := m) (u := vs m) (by simp [hlt])
            exact ⟨by rw [this, HV3.out], (h.base (i := k + 0) h9).2⟩
          have HCL := hide_ hcl
          obtain ⟨hcl0, hGl⟩ := hcl wr r _ _ _ HO.out
          clear hcl hv0 hv1 hv2 hv3 hrm hnn hc0 hc1 hb2
          obtain ⟨Ag, cg, hgv, hcg0, hcg1⟩ := ownsRow_slice (HO.out.at_ (i := k + 1) (rowsF_ex r (lsRow (some ⟨G, 0, none⟩) k cL vs) (gsRow _ m r :: (ex0 ++ ex)) 1))
          simp only [gsRow] at hgv
          subst hgv
          clear hcg0 hcg1
          go_wp2
          go_loopw [7, 8] (fun g i wr => ∃ (i' : Nat) (r : Nat → Ro) (ex : List Ro), i' ≤ 64 ∧ i = .int .i64 i' ∧ g = (r m).v ∧ Hid (Pat k vs ns r m i') ∧ Hid (Owns wr B (rowsF k r ++ lsRow (some ⟨G, 0, none⟩) k cL vs :: gsRow (.slice Ag m cg) m r :: (ex0 ++ ex))) ∧ Hid (∀ j, j < k → OldOk (rowsF k r ++ lsRow (some ⟨G, 0, none⟩) k cL vs :: gsRow (.slice Ag m cg) m r :: (ex0 ++ ex)) (vs j) (mkU j (ns j))) ∧ Below B w wr) (fun _ i _ => 64 - (intOf i).toNat)
          case atStart => exact ⟨0, r, ex, Nat.zero_le _, rfl, HV2.out.symm, HP, HO, HOL, HB2.out⟩
          case round =>
            clear HO HOL HP hcl0 hGl HB2
            obtain ⟨i, r', ex', hi, rfl, rfl, HP, HO, HOL, hb3⟩ := hrel
            have hrm := HP.out.at_ hlt
            have hget := rowsF_get r' (lsRow (some ⟨G, 0, none⟩) k cL vs :: gsRow (.slice Ag m cg) m r' :: (ex0 ++ ex')) hlt
            rw [hrm, ← HNN.out] at hget
            obtain ⟨A5, c5, hv5, _, _⟩ := ownsRow_slice (HO.out.at_ hget)
            have hv6 : (r' m).v = .slice A5 (n + i) c5 := hv5
            rw [hv6] at hget ⊢
            have HV6 := hide_ hv6
            have HGET := hide_ hget
            obtain ⟨hcl0, hGl⟩ := HCL.out wr r' _ _ _ HO.out
            have HB3 := hide_ hb3
            have HSZ := hide_ hb3.size
            clear hrm hv5 hv6 hget hb3
            by_cases hlt3 : i < 64
            · obtain ⟨mk, hmk⟩ : ∃ mk, mk = mkA ((m : Int) + 1) ((n : Int) + (i : Int)) := ⟨_, rfl⟩
              have HMS := hide_ (show mkU m (n + i + 1) = mkU m (n + i) ++ [.int .u8 99, .int .i64 mk, .string ⟨#[]⟩] by rw [mkU_succ, hmk]; rw [show ((n : Int) + (i : Int)) = ((n + i : Nat) : Int) by omega])
              have HMK := hide_ (fun W => markTokens_any ((m : Int) + 1) ((n : Int) + (i : Int)) W)
              rw [← hmk] at HMK
              have HL3 := hide_ hlt3
              have HNM := hide_ hnm
              clear hmk
              go_wp2_with fail
              refine (HMK.out _).mono ?_
              rintro e w6 ⟨rfl, hb6⟩
              have HO6 := hide_ (HO.out.below hb6)
              have HB6 := hide_ (HB3.out.trans (hb6.mono (Nat.le_trans HBS.out HSZ.out)))
              clear hb6 HO
              go_wp2_with (at_builtin; refine wpList_append_splitK _ rfl (.tmp 51) (.tmp 62) 24 rfl B _ m 36 3 (.slice A5 (n + i) c5) (n + i) (mkU m (n + i)) HGET.out (HO6.out.alloc _) (by have := HB6.out.size; have := HBS.out; rw [World.size_alloc]; omega) i0 _ 32 (by decide) Tryd.underlying24 hi0 hz0 hz1 hz2 rfl rfl _ _ 1 1 [.int .u8 99, .int .i64 mk, .string ⟨#[]⟩] rfl (reads_new w6 36 3 1 [.int .u8 99, .int .i64 mk, .string ⟨#[]⟩] rfl) (by simp [Value.oneCell']) (by omega) (by have := HNM.out; have := HL3.out; simp only [maxLen]; omega) (by have := HNM.out; have := HL3.out; omega) ?_)
              intro v7 w7 hsp hb7 hsz7
              have HB8 := hide_ (show Below B w w7 from (HB6.out.alloc (by have := HB6.out.size; have := HBS.out; omega) _).trans hb7)
              have HSP := hide_ hsp
              clear hsp hb7 HO6
              go_wp2
              go_roundw
              case rel =>
                have hnn := HNN.out
                have hms := HMS.out
                have hgt := HGET.out
                subst hnn
                rcases HSP.out with ⟨hob, hO1⟩ | hO1
                · rw [← hms, rowsF_set _ _ _ hlt] at hO1
                  refine ⟨i + 1, updR r' m ⟨36, 3, v7, ns m + i + 1, mkU m (ns m + i + 1)⟩, ex', by omega, by go_num, by simp [updR], hide_ (HP.out.step v7), hide_ ?_, hide_ (fun j hj => ?_), HB8.out⟩
                  · rw [gsRow_upd]; exact hO1
                  · have := (HOL.out j hj).set hgt ⟨36, 3, v7, ns m + i + 1, mkU m (ns m + i + 1)⟩ (.inr ⟨rfl, rfl, hob, by rw [hms]; exact List.prefix_append _ _⟩)
                    rw [rowsF_set _ _ _ hlt] at this
                    rw [gsRow_upd]; exact this
                · rw [← hms, rowsF_set _ _ _ hlt, List.append_assoc, List.cons_append, List.cons_append, List.append_assoc] at hO1
                  refine ⟨i + 1, updR r' m ⟨36, 3, v7, ns m + i + 1, mkU m (ns m + i + 1)⟩, ex' ++ [⟨36, 3, .slice A5 (ns m + i) c5, ns m + i, mkU m (ns m + i)⟩], by omega, by go_num, by simp [updR], hide_ (HP.out.step v7), hide_ ?_, hide_ (fun j hj => ?_), HB8.out⟩
                  · rw [gsRow_upd]; exact hO1
                  · have := (HOL.out j hj).moved hgt ⟨36, 3, v7, ns m + i + 1, mkU m (ns m + i + 1)⟩
                    rw [rowsF_set _ _ _ hlt, List.append_assoc, List.cons_append, List.cons_append, List.append_assoc] at this
                    rw [gsRow_upd]; exact this
              case measure => simp [intOf]; omega
            · obtain rfl : i = 64 := by omega
              have HGS := hide_ (show (rowsF k r' ++ lsRow (some ⟨G, 0, none⟩) k cL vs :: gsRow (.slice Ag m cg) m r' :: (ex0 ++ ex'))[k + 1]? = some (gsRow (.slice Ag m cg) m r') from rowsF_ex r' (lsRow (some ⟨G, 0, none⟩) k cL vs) (gsRow (.slice Ag m cg) m r' :: (ex0 ++ ex')) 1)
              go_wp2_with (at_builtin; refine wpList_append_owns _ rfl (.tmp 64) (.tmp 66) 31 rfl B _ (k + 1) 24 1 (.slice Ag m cg) m ((List.range m).map fun j => (r' j).v) HGS.out (HO.out.alloc _) (by have := HSZ.out; have := HBS.out; rw [World.size_alloc]; omega) i1 _ 24 Tryd.underlying31 hi1 hy0 hy1 hy2 rfl (by omega) rfl _ _ 1 1 [.slice A5 (n + 64) c5] rfl (reads_new wr 24 1 1 [.slice A5 (n + 64) c5] rfl) (by simp [Value.oneCell']) (by simp only [maxLen]; omega) (by omega) ?_)
              intro v7 w7 hO7 hb7 hsz7
              have HB8 := hide_ (show Below B w w7 from (HB3.out.alloc (by have := HSZ.out; have := HBS.out; omega) _).trans hb7)
              have HO7 := hide_ hO7
              clear hO7 hb7 HO
              go_wp2
              go_roundw
              case rel =>
                have hO8 := HO7.out
                rw [rowsF_set2, ← HV6.out, gsRow_next] at hO8
                refine ⟨m + 1, r', ex', by omega, by go_num, hide_ HP.out.next, hide_ hO8, hide_ (fun j hj => ?_), HB8.out⟩
                have := (HOL.out j hj).set HGS.out (gsRow v7 (m + 1) r') (.inl (show (24 : TypeId) ≠ 36 by decide))
                rw [rowsF_set2] at this
                exact this
              case measure => simp [intOf]; omega
        · obtain rfl : m = k := by omega
          obtain ⟨W0, hW0⟩ : ∃ W0, W0 = wr := ⟨_, rfl⟩
          rw [← hW0]
          rw [← hW0] at HO HB2
          clear hW0 hb2
          go_wp2
          go_loopw [9] (fun i W => ∃ q : Nat, q ≤ m ∧ i = .int .i64 q ∧ Below W0.heap.size W0 W) (fun i _ => m - (intOf i).toNat)
          case atStart => exact ⟨0, Nat.zero_le _, rfl, Below.refl _ _⟩
          case round =>
            obtain ⟨q, hq, rfl, hbq⟩ := hrel
            have HOQ := hide_ (HO.out.below hbq)
            have HBQ := hide_ hbq
            clear hbq
            by_cases hq2 : q < m
            · obtain ⟨G, rfl⟩ := ls_some HO.out (show 0 < m by omega)
              have hnq := HN.out q hq2
              obtain ⟨A, c, hv, hA⟩ := HVS.out q hq2
              obtain ⟨n, hnn⟩ : ∃ n, n = ns q := ⟨_, rfl⟩
              rw [← hnn] at hnq hv hA
              have HNN := hide_ hnn
              have HV := hide_ hv
              have HA := hide_ hA
              clear hnn hv hA
              obtain ⟨g', cg, g5, c5, rfl, hc1, hc2, s1, s2, s3, _, _⟩ := apart_last HOQ.out HP.out hq2 (HOL.out q hq2) HV.out HNN.out HA.out
              have hw1 : IntKind.i64.wrap ((q : Int) + 1) = (q : Int) + 1 := by rw [IntKind.wrap_i64]; omega
              go_wp2
              go_loopw [10] (fun i W => ∃ j : Nat, j ≤ n + 64 ∧ i = .int .i64 j ∧ Below W0.heap.size W0 W) (fun i _ => n + 64 - (intOf i).toNat)
              case atStart => exact ⟨0, Nat.zero_le _, rfl, HBQ.out⟩
              case round =>
                clear hc1 hc2 s1 s2 s3
                obtain ⟨j, hj, rfl, hbj⟩ := hrel
                obtain ⟨g9, cg9, g5', c5', e9, hc1, hc2, s1, s2, s3, hc3, hc4⟩ := apart_last (HO.out.below hbj) HP.out hq2 (HOL.out q hq2) HV.out HNN.out HA.out
                injection e9 with e9a _ e9b
                injection e9a with e9a
                injection e9a with e9a
                subst e9a e9b
                have HBJ := hide_ hbj
                have HSJ := hide_ hbj.size
                clear hbj
                by_cases hj2 : j < n + 64
                · have hl4 : (j : Int) < (n : Int) + 64 := by omega
                  obtain ⟨hx0, hx1, hx2⟩ := hc3 j hj2
                  have HMK := hide_ (fun W => markTokens_any ((q : Int) + 1) (j : Int) W)
                  obtain ⟨mk, hmk⟩ : ∃ mk, mk = mkA ((q : Int) + 1) (j : Int) := ⟨_, rfl⟩
                  rw [← hmk] at HMK hx1
                  have hcmp := fun w => token_eq w 99 mk ⟨#[]⟩
                  have HCMP := hide_ hcmp
                  have HX := hide_ (And.intro hx0 (And.intro hx1 hx2))
                  clear hx0 hx1 hx2 hcmp hc3
                  by_cases hj3 : j < n
                  · have hl5 : (j : Int) < (n : Int) := by omega
                    obtain ⟨g, e8, hgl, hz0', hz1', hz2'⟩ := hc4 j hj3
                    rw [← hmk] at hz1'
                    subst e8
                    have HY := hide_ (And.intro hz0' (And.intro hz1' hz2'))
                    clear hz0' hz1' hz2' hc4 hmk
                    go_wp2_with fail
                    refine (HMK.out _).mono ?_
                    rintro e w6 ⟨rfl, hb6⟩
                    have k1 := (hb6.cell (p := ⟨g', q, none⟩) s1).trans hc1
                    have k2 := (hb6.cell (p := ⟨G, q, none⟩) s2).trans hc2
                    have k3 := (hb6.cell (p := ⟨g5', j * 3, none⟩) s3).trans HX.out.1
                    have k4 := (hb6.cell (p := ⟨g5', j * 3 + 1, none⟩) s3).trans HX.out.2.1
                    have k5 := (hb6.cell (p := ⟨g5', j * 3 + 2, none⟩) s3).trans HX.out.2.2
                    have k6 := (hb6.cell (p := ⟨g, j * 3, none⟩) hgl).trans HY.out.1
                    have k7 := (hb6.cell (p := ⟨g, j * 3 + 1, none⟩) hgl).trans HY.out.2.1
                    have k8 := (hb6.cell (p := ⟨g, j * 3 + 2, none⟩) hgl).trans HY.out.2.2
                    have l1 : g' < w6.heap.size := Nat.lt_of_lt_of_le s1 hb6.size
                    have l2 : G < w6.heap.size := Nat.lt_of_lt_of_le s2 hb6.size
                    have l3 : g5' < w6.heap.size := Nat.lt_of_lt_of_le s3 hb6.size
                    have l4 : g < w6.heap.size := Nat.lt_of_lt_of_le hgl hb6.size
                    have HB6 := hide_ (HBJ.out.trans (hb6.mono HSJ.out))
                    clear hc1 hc2 s1 s2 s3 hgl hb6
                    go_upto_region 25 with (fail)
                    have hcmp := HCMP.out
                    go_big_quiet (fail)
                    clear k1 k2 k3 k4 k5 k6 k7 k8 hcmp
                    go_wp2
                    go_roundw
                    case rel => exact ⟨j + 1, hj2, by go_num, below_draws2 (HB6.out.alloc HB6.out.size _) _⟩
                    case measure => simp [intOf]; omega
                  · have hl5 : ¬ (j : Int) < (n : Int) := by omega
                    clear hc4 hmk
                    go_wp2_with fail
                    refine (HMK.out _).mono ?_
                    rintro e w6 ⟨rfl, hb6⟩
                    have k1 := (hb6.cell (p := ⟨g', q, none⟩) s1).trans hc1
                    have k2 := (hb6.cell (p := ⟨G, q, none⟩) s2).trans hc2
                    have k3 := (hb6.cell (p := ⟨g5', j * 3, none⟩) s3).trans HX.out.1
                    have k4 := (hb6.cell (p := ⟨g5', j * 3 + 1, none⟩) s3).trans HX.out.2.1
                    have k5 := (hb6.cell (p := ⟨g5', j * 3 + 2, none⟩) s3).trans HX.out.2.2
                    have l1 : g' < w6.heap.size := Nat.lt_of_lt_of_le s1 hb6.size
                    have l2 : G < w6.heap.size := Nat.lt_of_lt_of_le s2 hb6.size
                    have l3 : g5' < w6.heap.size := Nat.lt_of_lt_of_le s3 hb6.size
                    have HB6 := hide_ (HBJ.out.trans (hb6.mono HSJ.out))
                    clear hc1 hc2 s1 s2 s3 hb6
                    go_upto_region 25 with (fail)
                    have hcmp := HCMP.out
                    go_big_quiet (fail)
                    clear k1 k2 k3 k4 k5 hcmp
                    go_wp2
                    go_roundw
                    case rel => exact ⟨j + 1, hj2, by go_num, below_draws2 (HB6.out.alloc HB6.out.size _) _⟩
                    case measure => simp [intOf]; omega
                · obtain rfl : j = n + 64 := by omega
                  clear hc3 hc4
                  go_wp2
                  go_roundw
                  case rel => exact ⟨q + 1, by omega, by go_num, HBJ.out⟩
                  case measure => simp [intOf]; omega
            · obtain rfl : q = m := by omega
              have HFIN := hide_ (HOQ.out.sub ((List.sublist_append_left ex0 ex).trans ((List.sublist_cons_self _ _).trans ((List.sublist_cons_self _ _).trans (List.sublist_append_right _ _)))))
              have HBF := hide_ (HB2.out.trans (HBQ.out.mono (Nat.le_trans HBS.out HB2.out.size)))
              go_wp2
              go_ret
              exact ⟨rfl, HFIN.out, HBF.out⟩
end Go.Proofs.YtmbofpeedjlfhaaDoor
