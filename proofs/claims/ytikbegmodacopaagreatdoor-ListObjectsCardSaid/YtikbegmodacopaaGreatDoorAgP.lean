/-
  The kit's Apart.. walks, in general: lists of elements of S cells as rows; the marks.
-/
import Derived.PlainAid
import Derived.Test.YtikbegmodacopaaGreatDoorC15
namespace Go.Proofs.YtikbegmodacopaaGreatDoor
open Go.RowKit Go.PlainAid
set_option linter.unusedVariables false
set_option linter.unusedSimpArgs false
theorem below_draws2 {B : Nat} {a w : World} (h : Below B a w) (k : Nat) : Below B a (w.drewN k) := ⟨h.os, h.tape, h.output, h.size, h.block⟩
section
variable {α : Type} (enc : α → List Value) (S : Nat) (E L : TypeId) (mk : Int → Int → α)
def marks3 (k : Int) (n : Nat) : List α := (List.range n).map fun i => mk k (i : Nat)
/-- a row of elements -/
def rowB (vs : Nat → Value) (ns : Nat → Nat) (fs : Nat → List α) (j : Nat) : Ro := ⟨E, S, vs j, ns j, (fs j).flatMap enc⟩
def updF (f : Nat → List α) (k : Nat) (x : List α) : Nat → List α := fun j => if j = k then x else f j
/-- the lists, the first k of them marked -/
def markF (ns : Nat → Nat) (fs : Nat → List α) (k : Nat) : Nat → List α := fun j => if j < k then marks3 mk ((j : Int) + 1) (ns j) else fs j
def lsRow (AL : Option Addr) (K cL : Nat) (vs : Nat → Value) : Ro := ⟨L, 1, .slice AL K cL, K, (List.range K).map vs⟩
def mkU (j n : Nat) : List Value := (marks3 mk ((j : Int) + 1) n).flatMap enc
/-- some row holds what stood there -/
def OldOk (rs : List Ro) (v : Value) (ys : List Value) : Prop := ∃ r ∈ rs, r.e = E ∧ r.size = S ∧ r.v.ownBlock = v.ownBlock ∧ ys <+: r.xs
def gsRow (v : Value) (k : Nat) (r : Nat → Ro) : Ro := ⟨L, 1, v, k, (List.range k).map fun j => (r j).v⟩
/-- the rows while the first k lists are grown, the next one by i -/
def Pat (K : Nat) (vs : Nat → Value) (ns : Nat → Nat) (r : Nat → Ro) (k i : Nat) : Prop :=
  ∀ j, j < K → r j = ⟨E, S, (r j).v, ns j + (if j < k then 64 else if j = k then i else 0), mkU enc mk j (ns j + (if j < k then 64 else if j = k then i else 0))⟩ ∧ (k < j ∨ (k = j ∧ i = 0) → (r j).v = vs j)
end
section
variable {α : Type} {enc : α → List Value} {S : Nat} {E L : TypeId} {mk : Int → Int → α}
theorem marks3_succ (k : Int) (n : Nat) : marks3 mk k (n + 1) = marks3 mk k n ++ [mk k (n : Nat)] := by simp [marks3, List.range_succ]
theorem marks3_len (k : Int) (n : Nat) : (marks3 mk k n).length = n := by simp [marks3]
theorem mkU_succ (j n : Nat) : mkU enc mk j (n + 1) = mkU enc mk j n ++ enc (mk ((j : Int) + 1) n) := by unfold mkU; rw [marks3_succ]; simp
theorem mkU_get (hS : ∀ a, (enc a).length = S) (j n i q : Nat) (h : i < n) {u : Value} (hu : (enc (mk ((j : Int) + 1) i))[q]? = some u) : (mkU enc mk j n)[i * S + q]? = some u := by
  unfold mkU
  exact enc_get hS _ i (mk ((j : Int) + 1) i) (by simp [marks3, h]) q u hu
theorem enc_set1 : ∀ (X : List α) (j : Nat) (m : α) (a : Value), (∀ x, (enc x).length = 1) → enc m = [a] → (X.flatMap enc).set j a = (X.set j m).flatMap enc
  | [], j, m, a, _, _ => by simp
  | x :: X, j, m, a, hS, e => by
    obtain ⟨p, hp⟩ : ∃ p, enc x = [p] := List.length_eq_one_iff.1 (hS x)
    rw [List.flatMap_cons, hp]
    cases j with
    | zero => simp [e]
    | succ j =>
      rw [List.set_cons_succ, List.flatMap_cons, hp, ← enc_set1 X j m a hS e]
      rfl
theorem enc_set2 : ∀ (X : List α) (j : Nat) (m : α) (a b : Value), (∀ x, (enc x).length = 2) → enc m = [a, b] → ((X.flatMap enc).set (j * 2) a).set (j * 2 + 1) b = (X.set j m).flatMap enc
  | [], j, m, a, b, _, _ => by simp
  | x :: X, j, m, a, b, hS, e => by
    obtain ⟨p, q, hp⟩ : ∃ p q, enc x = [p, q] := by
      have h := hS x
      revert h
      generalize enc x = l
      intro h
      match l, h with
      | [p, q], _ => exact ⟨p, q, rfl⟩
    rw [List.flatMap_cons, hp]
    cases j with
    | zero => simp [e]
    | succ j =>
      rw [List.set_cons_succ, List.flatMap_cons, hp, ← enc_set2 X j m a b hS e, show (j + 1) * 2 = j * 2 + 1 + 1 by omega]
      rfl
theorem ls_some {W : World} {B K cL : Nat} {AL : Option Addr} {vs : Nat → Value} {r : Nat → Ro} {ex : List Ro} (h : Owns W B (rowsF K r ++ lsRow L AL K cL vs :: ex)) (hK : 0 < K) : ∃ G, AL = some ⟨G, 0, none⟩ := by
  have h1 := h.at_ (i := K + 0) (rowsF_ex r (lsRow L AL K cL vs) ex 0)
  obtain ⟨g, c', h4⟩ := ownsRow_some h1 hK
  have h5 : Value.slice AL K cL = .slice (some ⟨g, 0, none⟩) K c' := h4
  injection h5 with h5
  exact ⟨g, h5⟩
theorem row_upd {K k : Nat} {vs : Nat → Value} {ns : Nat → Nat} {fs : Nat → List α} {x : List α} (_hk : k < K) : rowsF K (updR (rowB enc S E vs ns fs) k ⟨E, S, vs k, ns k, x.flatMap enc⟩) = rowsF K (rowB enc S E vs ns (updF fs k x)) :=
  rowsF_congr fun j _ => by
    unfold updR rowB updF
    by_cases h : j = k
    · subst h; simp
    · simp [h]
theorem mark_step (ns : Nat → Nat) (fs : Nat → List α) (k : Nat) : markF mk ns fs (k + 1) = updF (markF mk ns fs k) k (marks3 mk ((k : Int) + 1) (ns k)) := by
  funext j
  unfold markF updF
  dsimp only
  by_cases h : j = k
  · subst h; simp
  · by_cases h2 : j < k
    · rw [if_pos (by omega), if_neg h, if_pos h2]
    · rw [if_neg (by omega), if_neg h, if_neg h2]
theorem upd_self (f : Nat → List α) (k : Nat) : updF f k (f k) = f := by
  funext j
  unfold updF
  by_cases h : j = k
  · subst h; simp
  · rw [if_neg h]
theorem upd_upd (f : Nat → List α) (k : Nat) (x y : List α) : updF (updF f k x) k y = updF f k y := by
  funext j
  unfold updF
  by_cases h : j = k <;> simp [h]
theorem over_set3 (q : Int) (xs : List α) (j : Nat) (h : j < xs.length) : (marks3 mk q j ++ xs.drop j).set j (mk q j) = marks3 mk q (j + 1) ++ xs.drop (j + 1) := by
  rw [List.drop_eq_getElem_cons h, List.set_append_right _ _ (by rw [marks3_len]; omega), marks3_len, Nat.sub_self, List.set_cons_zero, marks3_succ]
  simp
theorem apart_row {K k : Nat} {vs : Nat → Value} {ns : Nat → Nat} {f : Nat → List α} {ex : List Ro} (hk : k < K) (X : List α) {g n c1 : Nat} (hv : vs k = .slice (some ⟨g, 0, none⟩) n c1) (hn : n = ns k) :
    (rowsF K (rowB enc S E vs ns (updF f k X)) ++ ex)[k]? = some ⟨E, S, .slice (some ⟨g, 0, none⟩) n c1, n, X.flatMap enc⟩ := by
  rw [rowsF_get _ _ hk]
  unfold rowB
  rw [hv, ← hn]
  simp [updF]
theorem OldOk.set {rs : List Ro} {v : Value} {ys : List Value} (h : OldOk S E rs v ys) {k : Nat} {old : Ro} (hk : rs[k]? = some old) (new : Ro)
    (hne : old.e ≠ E ∨ (new.e = E ∧ new.size = S ∧ new.v.ownBlock = old.v.ownBlock ∧ old.xs <+: new.xs)) : OldOk S E (rs.set k new) v ys := by
  obtain ⟨r, hr, h1, h2, h3, h4⟩ := h
  obtain ⟨i, hi⟩ := List.mem_iff_getElem?.1 hr
  have hkl : k < rs.length := (List.getElem?_eq_some_iff.1 hk).1
  by_cases hik : k = i
  · subst hik
    rw [hk] at hi
    injection hi with hi
    subst hi
    rcases hne with hne | ⟨g1, g2, g3, g4⟩
    · exact absurd h1 hne
    · exact ⟨new, List.mem_iff_getElem?.2 ⟨k, by rw [List.getElem?_set_self hkl]⟩, g1, g2, g3.trans h3, h4.trans g4⟩
  · exact ⟨r, List.mem_iff_getElem?.2 ⟨i, by rw [List.getElem?_set_ne hik]; exact hi⟩, h1, h2, h3, h4⟩
theorem OldOk.moved {rs : List Ro} {v : Value} {ys : List Value} (h : OldOk S E rs v ys) {k : Nat} {old : Ro} (hk : rs[k]? = some old) (new : Ro) : OldOk S E (rs.set k new ++ [old]) v ys := by
  obtain ⟨r, hr, hh⟩ := h
  obtain ⟨i, hi⟩ := List.mem_iff_getElem?.1 hr
  by_cases hik : k = i
  · subst hik
    rw [hk] at hi
    injection hi with hi
    subst hi
    exact ⟨old, by simp, hh⟩
  · exact ⟨r, List.mem_append_left _ (List.mem_iff_getElem?.2 ⟨i, by rw [List.getElem?_set_ne hik]; exact hi⟩), hh⟩
theorem OldOk.cell {w : World} {B : Nat} {rs : List Ro} {g n c j : Nat} {ys : List Value} {u : Value} (h : OldOk S E rs (.slice (some ⟨g, 0, none⟩) n c) ys) (hO : Owns w B rs) (hu : ys[j]? = some u) : w.cell? ⟨g, j, none⟩ = some u := by
  obtain ⟨r, hr, h1, h2, h3, h4⟩ := h
  have hrow := hO.1 r hr
  rw [h1, h2] at hrow
  have hx : r.xs[j]? = some u := by
    obtain ⟨t, ht⟩ := h4
    rw [← ht, List.getElem?_append_left (List.getElem?_eq_some_iff.1 hu).1]
    exact hu
  have := hrow.cells (g := g) (by rw [h3]; rfl) j u hx
  have e1 : (⟨g, 0, none⟩ : Addr).add j = ⟨g, j, none⟩ := by unfold Addr.add; split <;> simp_all
  rwa [e1] at this
theorem Pat.at_ {K : Nat} {vs : Nat → Value} {ns : Nat → Nat} {r : Nat → Ro} {k i : Nat} (h : Pat enc S E mk K vs ns r k i) (hk : k < K) : r k = ⟨E, S, (r k).v, ns k + i, mkU enc mk k (ns k + i)⟩ := by
  have := (h k hk).1
  rw [if_neg (by omega), if_pos rfl] at this
  exact this
theorem Pat.step {K : Nat} {vs : Nat → Value} {ns : Nat → Nat} {r : Nat → Ro} {k i : Nat} (h : Pat enc S E mk K vs ns r k i) (v' : Value) : Pat enc S E mk K vs ns (updR r k ⟨E, S, v', ns k + i + 1, mkU enc mk k (ns k + i + 1)⟩) k (i + 1) := by
  intro j hj
  unfold updR
  by_cases e : j = k
  · subst e
    rw [if_pos rfl, if_neg (by omega), if_pos rfl]
    exact ⟨rfl, fun x => by omega⟩
  · rw [if_neg e]
    have := h j hj
    rw [if_neg e] at this ⊢
    exact ⟨this.1, fun x => this.2 (by omega)⟩
theorem Pat.next {K : Nat} {vs : Nat → Value} {ns : Nat → Nat} {r : Nat → Ro} {k : Nat} (h : Pat enc S E mk K vs ns r k 64) : Pat enc S E mk K vs ns r (k + 1) 0 := by
  intro j hj
  have := h j hj
  by_cases e : j < k
  · rw [if_pos e] at this
    rw [if_pos (by omega)]
    exact ⟨this.1, fun x => by omega⟩
  · by_cases e2 : j = k
    · subst e2
      rw [if_neg e, if_pos rfl] at this
      rw [if_pos (by omega)]
      exact ⟨this.1, fun x => by omega⟩
    · rw [if_neg e, if_neg e2] at this
      rw [if_neg (by omega)]
      refine ⟨?_, fun x => this.2 (by omega)⟩
      have e3 : (if j = k + 1 then 0 else 0) = 0 := by split <;> rfl
      rw [e3]
      exact this.1
theorem gsRow_upd (v : Value) (k : Nat) (r : Nat → Ro) (x : Ro) : gsRow L v k (updR r k x) = gsRow L v k r := by
  unfold gsRow
  congr 1
  exact List.map_congr_left (fun j hj => by unfold updR; rw [if_neg (by have := List.mem_range.1 hj; omega)])
theorem gsRow_next (v : Value) (k : Nat) (r : Nat → Ro) : (⟨L, 1, v, k + 1, ((List.range k).map fun j => (r j).v) ++ [(r k).v]⟩ : Ro) = gsRow L v (k + 1) r := by
  unfold gsRow
  rw [List.range_succ]
  simp
theorem rowsF_set2 {K : Nat} (r : Nat → Ro) (a b x : Ro) (ex : List Ro) : (rowsF K r ++ a :: b :: ex).set (K + 1) x = rowsF K r ++ a :: x :: ex := by
  rw [List.set_append_right _ _ (by rw [rowsF_len]; omega), rowsF_len, Nat.add_sub_cancel_left]
  rfl
theorem Pat.done {K : Nat} {vs : Nat → Value} {ns : Nat → Nat} {r : Nat → Ro} {j : Nat} (h : Pat enc S E mk K vs ns r K 0) (hj : j < K) : r j = ⟨E, S, (r j).v, ns j + 64, mkU enc mk j (ns j + 64)⟩ := by
  have := (h j hj).1
  rw [if_pos hj] at this
  exact this
theorem apart_put1 {W : World} {B K k : Nat} {vs : Nat → Value} {ns : Nat → Nat} {f : Nat → List α} {ex : List Ro} (hS : ∀ x, (enc x).length = 1) (hk : k < K) (X : List α) {g n c1 j : Nat} (hv : vs k = .slice (some ⟨g, 0, none⟩) n c1) (hn : n = ns k)
    (h : Owns W B (rowsF K (rowB enc 1 E vs ns (updF f k X)) ++ ex)) (hj : j < X.length) (m : α) {a : Value} (e : enc m = [a]) : Owns (W.setCell ⟨g, j, none⟩ a) B (rowsF K (rowB enc 1 E vs ns (updF f k (X.set j m))) ++ ex) := by
  have hl : (X.flatMap enc).length = X.length * 1 := enc_len hS X
  have hr := apart_row (enc := enc) (S := 1) (E := E) (ex := ex) (f := f) hk X hv hn
  have h1 := h.store hr (j := j) (by omega) a
  rw [enc_set1 X j m a hS e, rowsF_set _ _ _ hk] at h1
  have e : rowsF K (updR (rowB enc 1 E vs ns (updF f k X)) k ⟨E, 1, .slice (some ⟨g, 0, none⟩) n c1, n, (X.set j m).flatMap enc⟩) = rowsF K (rowB enc 1 E vs ns (updF f k (X.set j m))) := by
    rw [← upd_upd f k X (X.set j m), ← row_upd hk, hv, hn]
  rw [e] at h1
  exact h1
theorem apart_put2 {W : World} {B K k : Nat} {vs : Nat → Value} {ns : Nat → Nat} {f : Nat → List α} {ex : List Ro} (hS : ∀ x, (enc x).length = 2) (hk : k < K) (X : List α) {g n c1 j : Nat} (hv : vs k = .slice (some ⟨g, 0, none⟩) n c1) (hn : n = ns k)
    (h : Owns W B (rowsF K (rowB enc 2 E vs ns (updF f k X)) ++ ex)) (hj : j < X.length) (m : α) {a b : Value} (e : enc m = [a, b]) : Owns ((W.setCell ⟨g, j * 2, none⟩ a).setCell ⟨g, j * 2 + 1, none⟩ b) B (rowsF K (rowB enc 2 E vs ns (updF f k (X.set j m))) ++ ex) := by
  have hl : (X.flatMap enc).length = X.length * 2 := enc_len hS X
  have hr := apart_row (enc := enc) (S := 2) (E := E) (ex := ex) (f := f) hk X hv hn
  have hlen : k < (rowsF K (rowB enc 2 E vs ns (updF f k X)) ++ ex).length := (List.getElem?_eq_some_iff.1 hr).1
  have h1 := h.store hr (j := j * 2) (by omega) a
  have h2 := h1.store (i := k) (by rw [List.getElem?_set_self hlen]) (j := j * 2 + 1) (by rw [List.length_set]; omega) b
  rw [List.set_set, enc_set2 X j m a b hS e, rowsF_set _ _ _ hk] at h2
  have e : rowsF K (updR (rowB enc 2 E vs ns (updF f k X)) k ⟨E, 2, .slice (some ⟨g, 0, none⟩) n c1, n, (X.set j m).flatMap enc⟩) = rowsF K (rowB enc 2 E vs ns (updF f k (X.set j m))) := by
    rw [← upd_upd f k X (X.set j m), ← row_upd hk, hv, hn]
  rw [e] at h2
  exact h2
theorem apart_last {W : World} {B m q G n c cL : Nat} {vs : Nat → Value} {ns : Nat → Nat} {r : Nat → Ro} {ex : List Ro} {gv : Value} {A : Option Addr} (hS : ∀ x, (enc x).length = S)
    (hO : Owns W B (rowsF m r ++ lsRow L (some ⟨G, 0, none⟩) m cL vs :: gsRow L gv m r :: ex)) (hP : Pat enc S E mk m vs ns r m 0) (hq : q < m) (hOL : OldOk S E (rowsF m r ++ lsRow L (some ⟨G, 0, none⟩) m cL vs :: gsRow L gv m r :: ex) (vs q) (mkU enc mk q (ns q)))
    (hv : vs q = .slice A n c) (hn : n = ns q) (hA : 0 < n → ∃ g, A = some ⟨g, 0, none⟩) :
    ∃ g' cg g5 c5, gv = .slice (some ⟨g', 0, none⟩) m cg ∧ W.cell? ⟨g', q, none⟩ = some (.slice (some ⟨g5, 0, none⟩) (n + 64) c5) ∧ W.cell? ⟨G, q, none⟩ = some (.slice A n c) ∧ g' < W.heap.size ∧ G < W.heap.size ∧ g5 < W.heap.size ∧
      (∀ i, i < n + 64 → ∀ p u, (enc (mk ((q : Int) + 1) i))[p]? = some u → W.cell? ⟨g5, i * S + p, none⟩ = some u) ∧
      (∀ i, i < n → ∃ g, A = some ⟨g, 0, none⟩ ∧ ∀ p u, (enc (mk ((q : Int) + 1) i))[p]? = some u → W.cell? ⟨g, i * S + p, none⟩ = some u ∧ g < W.heap.size) := by
  subst hn
  have hgs : (rowsF m r ++ lsRow L (some ⟨G, 0, none⟩) m cL vs :: gsRow L gv m r :: ex)[m + 1]? = some (gsRow L gv m r) := rowsF_ex r (lsRow L (some ⟨G, 0, none⟩) m cL vs) (gsRow L gv m r :: ex) 1
  obtain ⟨g', cg, hgv⟩ := ownsRow_some (hO.at_ hgs) (show 0 < m by omega)
  have hgv' : gv = .slice (some ⟨g', 0, none⟩) m cg := hgv
  subst hgv'
  have hrow := rowsF_get r (lsRow L (some ⟨G, 0, none⟩) m cL vs :: gsRow L (.slice (some ⟨g', 0, none⟩) m cg) m r :: ex) hq
  have hd := hP.done hq
  rw [hd] at hrow
  obtain ⟨g5, c5, h5⟩ := ownsRow_some (hO.at_ hrow) (show 0 < ns q + 64 by omega)
  have h6 : (r q).v = .slice (some ⟨g5, 0, none⟩) (ns q + 64) c5 := h5
  rw [h6] at hrow
  have hls := rowsF_ex (K := m) r (lsRow L (some ⟨G, 0, none⟩) m cL vs) (gsRow L (.slice (some ⟨g', 0, none⟩) m cg) m r :: ex) 0
  refine ⟨g', cg, g5, c5, rfl, ?_, ?_, (hO.base hgs).2, (hO.base (i := m + 0) hls).2, (hO.base hrow).2, ?_, ?_⟩
  · have := hO.cell hgs (j := q) (u := (r q).v) (by simp [gsRow, hq])
    rw [this, h6]
  · have := hO.cell (i := m + 0) hls (j := q) (u := vs q) (by simp [lsRow, hq])
    rw [this, hv]
  · intro i hi p u hu
    exact hO.cell hrow (mkU_get hS q _ i p hi hu)
  · intro i hi
    obtain ⟨g, rfl⟩ := hA (by omega)
    rw [hv] at hOL
    refine ⟨g, rfl, fun p u hu => ?_⟩
    have h9 := hOL.cell hO (mkU_get hS q _ i p hi hu)
    exact ⟨h9, World.block_lt_of_cell? W _ h9⟩
end
end Go.Proofs.YtikbegmodacopaaGreatDoor
