import Derived.Test.YtmbofpeedjlfhaaDoorKit
import Derived.PlainAid
import Derived.Test.YtmbofpeedjlfhaaDoorKitT
import Derived.Test.YtmbofpeedjlfhaaDoorSeeS
import Derived.Test.YtmbofpeedjlfhaaDoorShowT
import Derived.Test.YtmbofpeedjlfhaaDoorRows
import Derived.Deep.RegionHeld3
import Derived.Deep.CutRange
/-
  An append that stays in its row or moves, of elements of several cells; rows by permutation.
-/
namespace Go.Proofs.YtmbofpeedjlfhaaDoor
open Go.RowKit
set_option linter.unusedVariables false

def rowsF (K : Nat) (r : Nat → Ro) : List Ro := (List.range K).map r
def updR (r : Nat → Ro) (k : Nat) (x : Ro) : Nat → Ro := fun j => if j = k then x else r j
theorem rowsF_len (K : Nat) (r : Nat → Ro) : (rowsF K r).length = K := by simp [rowsF]
theorem rowsF_get {K k : Nat} (r : Nat → Ro) (ex : List Ro) (hk : k < K) : (rowsF K r ++ ex)[k]? = some (r k) := by
  rw [List.getElem?_append_left (by rw [rowsF_len]; exact hk)]
  simp [rowsF, hk]
theorem rowsF_ex {K : Nat} (r : Nat → Ro) (x : Ro) (ex : List Ro) (j : Nat) : (rowsF K r ++ x :: ex)[K + j]? = (x :: ex)[j]? := by
  rw [List.getElem?_append_right (by rw [rowsF_len]; omega), rowsF_len, Nat.add_sub_cancel_left]
theorem rowsF_set {K k : Nat} (r : Nat → Ro) (ex : List Ro) (x : Ro) (hk : k < K) : (rowsF K r ++ ex).set k x = rowsF K (updR r k x) ++ ex := by
  rw [List.set_append_left _ _ (by rw [rowsF_len]; exact hk)]
  congr 1
  apply List.ext_getElem?
  intro j
  rw [List.getElem?_set]
  by_cases hj : k = j
  · subst hj
    simp [rowsF, updR, hk]
  · rw [if_neg hj]
    by_cases hjK : j < K
    · simp [rowsF, updR, hjK, Ne.symm hj]
    · simp [rowsF, hjK]
theorem rowsF_congr {K : Nat} {r s : Nat → Ro} (h : ∀ j, j < K → r j = s j) : rowsF K r = rowsF K s := by
  unfold rowsF
  exact List.map_congr_left (fun j hj => h j (List.mem_range.1 hj))

section
variable {P : Program} (w : World)
/-- where the new row lies -/
theorem run_append_split (base : Nat) (t ty e : TypeId) (i : TypeInfo) (z : Value) (bytes : Nat) (ht : P.underlying t = some (.slice e)) (hi : P.info? e = some i) (hz : i.zero = some z)
    (hsize : i.size = 1) (hby : i.bytes = bytes) (hzs : z.cells.size = 1)
    (v : Value) (n : Nat) (xs : List Value) (hown : w.ownsRow base e 1 v n xs)
    (B : Nat) (A : Option Addr) (m c : Nat) (news : List Value) (hr : Reads w B 1 A m news) (h1 : ∀ u ∈ news, u.oneCell' = true) (hm : 0 < m)
    (h63 : n + m ≤ maxLen) (hbytes : (n + m) * bytes ≤ 140737488355328) (hbase : base ≤ w.heap.size) :
    ∃ v' w', (Builtin.append_ #[t, t] ty #[v, .slice A m c]).run P w = .ok v' w' ∧ w'.ownsRow base e 1 v' (n + m) (xs ++ news) ∧ w.grownBy w' v.ownBlock ∧
      ((v'.ownBlock = v.ownBlock ∧ v.ownBlock ≠ none) ∨ (Below w.heap.size w w' ∧ w'.ownsRow w.heap.size e 1 v' (n + m) (xs ++ news))) := by
  obtain ⟨v', w', hrun, h2, h3, h4⟩ := run_append_any (P := P) w base t ty e i z 1 bytes ht hi hz hsize hby hzs (by omega) v n xs hown B A m c news hr h1 h63 hbytes hbase
  refine ⟨v', w', hrun, h2, h3, ?_⟩
  rcases hown.2 with ⟨rfl, hn⟩ | ⟨g, cap, cur, rfl, hg0, hg, hnc, hcm, hcs, htake⟩
  · subst hn
    have hxs : xs = [] := List.eq_nil_of_length_eq_zero (by simpa using hown.1)
    subst hxs
    obtain ⟨v2, w2, hrun2, k2, k3, _⟩ := run_append_any (P := P) w w.heap.size t ty e i z 1 bytes ht hi hz hsize hby hzs (by omega) _ 0 [] (World.ownsRow_nil _ _ _ _) B A m c news hr h1 h63 hbytes (Nat.le_refl _)
    rw [hrun] at hrun2
    injection hrun2 with e1 e2
    subst e1 e2
    exact .inr ⟨(Below.refl _ w).grown k3 (Nat.le_refl _) (fun k e => by cases e), k2⟩
  · obtain ⟨ad, rfl, hadB, hcells⟩ := hr.2 hm
    have hl := hr.1
    by_cases hroom : n + m ≤ cap
    · have hrun2 := run_append_room (P := P) w t ty e i ht hi g n cap cur hg ad m c news (by rw [hsize]; exact hl) hcells h1 hroom (by rw [hsize, hl, hcs]; omega)
      rw [hrun] at hrun2
      injection hrun2 with e1 e2
      subst e1
      exact .inl ⟨rfl, by simp [Value.ownBlock]⟩
    · have hmx : n + m ≤ 9223372036854775807 := by simp only [maxLen] at h63; omega
      have hrun2 := run_append_grow (P := P) w t ty e i z ht hi hz ⟨g, 0, none⟩ n cap xs (by rw [hsize]; exact hown.1) (hown.cells (g := g) rfl) ad m c news (by rw [hsize]; exact hl) hcells (by omega) (by omega) (growslice_fits (by omega) (by rw [hby]; exact hbytes))
      rw [hrun] at hrun2
      injection hrun2 with e1 e2
      subst e1 e2
      refine .inr ⟨(Below.refl _ w).drew.alloc (Nat.le_refl _) _, ?_⟩
      obtain ⟨k1, k2⟩ := h2
      refine ⟨k1, ?_⟩
      rcases k2 with ⟨h5, _⟩ | ⟨g', cap', cur', hv, _, hrest⟩
      · cases h5
      · injection hv with hv1 hv2 hv3
        injection hv1 with hv1
        injection hv1 with hv1
        subst hv1 hv3
        exact .inr ⟨_, _, cur', rfl, Nat.le_refl _, hrest⟩
end
theorem set_perm {α : Type} (l : List α) : ∀ (k : Nat) (x y : α), l[k]? = some y → (l ++ [x]).Perm (l.set k x ++ [y]) := by
  induction l with
  | nil => intro k x y h; simp at h
  | cons a l ih =>
    intro k x y h
    cases k with
    | zero =>
      simp only [List.getElem?_cons_zero, Option.some.injEq] at h
      subst h
      simp only [List.set_cons_zero, List.cons_append]
      exact (List.perm_append_comm (l₁ := a :: l) (l₂ := [x])).trans ((List.Perm.cons x (List.perm_append_comm (l₁ := [a]) (l₂ := l))))
    | succ k =>
      simp only [List.getElem?_cons_succ] at h
      simp only [List.set_cons_succ, List.cons_append]
      exact (ih k x y h).cons a
theorem wpList_append_split {P : Program} (w : World) {ops : Array Oper} {rest : List Oper} {o : Oper} {a : Act} {Q : Exit → Act → World → Prop} (hgd : o.guard = none) (s x : Operand) (t : TypeId)
    (ho : o.op = .call { callee := .builtin .append, args := #[s, x], argTypes := #[t, t] })
    (B : Nat) (rs : List Ro) (k : Nat) (e : TypeId) (v : Value) (n : Nat) (xs : List Value) (hr : rs[k]? = some ⟨e, 1, v, n, xs⟩) (hO : Owns w B rs) (hB : B ≤ w.heap.size)
    (i : TypeInfo) (z : Value) (bytes : Nat) (ht : P.underlying t = some (.slice e)) (hi : P.info? e = some i) (hz : i.zero = some z)
    (hsize : i.size = 1) (hby : i.bytes = bytes) (hzs : z.cells.size = 1)
    (hs : a.eval s = v)
    (B' : Nat) (A : Option Addr) (m c : Nat) (news : List Value) (hx : a.eval x = .slice A m c) (hn : Reads w B' 1 A m news) (h1 : ∀ u ∈ news, u.oneCell' = true) (hm : 0 < m)
    (h63 : n + m ≤ maxLen) (hbytes : (n + m) * bytes ≤ 140737488355328)
    (h : ∀ v' w', ((v'.ownBlock = v.ownBlock ∧ Owns w' B (rs.set k ⟨e, 1, v', n + m, xs ++ news⟩)) ∨ Owns w' B (rs.set k ⟨e, 1, v', n + m, xs ++ news⟩ ++ [⟨e, 1, v, n, xs⟩])) → Below B w w' → w.heap.size ≤ w'.heap.size → wpList P ops Q rest (a.put o.dst v') w') : wpList P ops Q (o :: rest) a w := by
  refine wpList_plain hgd fun K hK => ?_
  obtain ⟨v', w', hrun, hown, hg, hat⟩ := run_append_split (P := P) w B t o.type e i z bytes ht hi hz hsize hby hzs v n xs (hO.at_ hr) B' A m c news hn h1 hm h63 hbytes hB
  unfold Oper.wp execOp
  simp only [ho, resolve, invoke, builtin, Sem.run_bind, Sem.run_pure, Result.andThen_ok, List.map_toArray, List.map_cons, List.map_nil, hs, hx, hrun]
  refine hK _ _ (h v' w' ?_ ((Below.refl _ _).grown hg hB (fun j hj => (hO.lt_ (List.mem_of_getElem? hr) hj).1)) hg.size)
  rcases hat with ⟨h2, _⟩ | ⟨h2, h3⟩
  · exact .inl ⟨h2, hO.turn hr hg hown (.inl h2)⟩
  · exact .inr ((hO.push h2 (r := ⟨e, 1, v', n + m, xs ++ news⟩) h3 hB).swap (set_perm rs k _ _ hr))
end Go.Proofs.YtmbofpeedjlfhaaDoor
namespace Go.Proofs.YtmbofpeedjlfhaaDoor
open Go.RowKit
set_option linter.unusedVariables false

section
variable {P : Program} (w : World)
/-- where the new row lies -/
theorem run_append_splitK (base : Nat) (t ty e : TypeId) (i : TypeInfo) (z : Value) (size bytes : Nat) (hsz : 0 < size) (ht : P.underlying t = some (.slice e)) (hi : P.info? e = some i) (hz : i.zero = some z)
    (hsize : i.size = size) (hby : i.bytes = bytes) (hzs : z.cells.size = size)
    (v : Value) (n : Nat) (xs : List Value) (hown : w.ownsRow base e size v n xs)
    (B : Nat) (A : Option Addr) (m c : Nat) (news : List Value) (hr : Reads w B size A m news) (h1 : ∀ u ∈ news, u.oneCell' = true) (hm : 0 < m)
    (h63 : n + m ≤ maxLen) (hbytes : (n + m) * bytes ≤ 140737488355328) (hbase : base ≤ w.heap.size) :
    ∃ v' w', (Builtin.append_ #[t, t] ty #[v, .slice A m c]).run P w = .ok v' w' ∧ w'.ownsRow base e size v' (n + m) (xs ++ news) ∧ w.grownBy w' v.ownBlock ∧
      ((v'.ownBlock = v.ownBlock ∧ v.ownBlock ≠ none) ∨ (Below w.heap.size w w' ∧ w'.ownsRow w.heap.size e size v' (n + m) (xs ++ news))) := by
  obtain ⟨v', w', hrun, h2, h3, h4⟩ := run_append_any (P := P) w base t ty e i z size bytes ht hi hz hsize hby hzs hsz v n xs hown B A m c news hr h1 h63 hbytes hbase
  refine ⟨v', w', hrun, h2, h3, ?_⟩
  rcases hown.2 with ⟨rfl, hn⟩ | ⟨g, cap, cur, rfl, hg0, hg, hnc, hcm, hcs, htake⟩
  · subst hn
    have hxs : xs = [] := List.eq_nil_of_length_eq_zero (by simpa using hown.1)
    subst hxs
    obtain ⟨v2, w2, hrun2, k2, k3, _⟩ := run_append_any (P := P) w w.heap.size t ty e i z size bytes ht hi hz hsize hby hzs hsz _ 0 [] (World.ownsRow_nil _ _ _ _) B A m c news hr h1 h63 hbytes (Nat.le_refl _)
    rw [hrun] at hrun2
    injection hrun2 with e1 e2
    subst e1 e2
    exact .inr ⟨(Below.refl _ w).grown k3 (Nat.le_refl _) (fun k e => by cases e), k2⟩
  · obtain ⟨ad, rfl, hadB, hcells⟩ := hr.2 hm
    have hl := hr.1
    by_cases hroom : n + m ≤ cap
    · have hrun2 := run_append_room (P := P) w t ty e i ht hi g n cap cur hg ad m c news (by rw [hsize]; exact hl) hcells h1 hroom (by rw [hsize, hl, hcs, ← Nat.add_mul]; exact Nat.mul_le_mul_right _ hroom)
      rw [hrun] at hrun2
      injection hrun2 with e1 e2
      subst e1
      exact .inl ⟨rfl, by simp [Value.ownBlock]⟩
    · have hmx : n + m ≤ 9223372036854775807 := by simp only [maxLen] at h63; omega
      have hrun2 := run_append_grow (P := P) w t ty e i z ht hi hz ⟨g, 0, none⟩ n cap xs (by rw [hsize]; exact hown.1) (hown.cells (g := g) rfl) ad m c news (by rw [hsize]; exact hl) hcells (by omega) (by omega) (growslice_fits (by omega) (by rw [hby]; exact hbytes))
      rw [hrun] at hrun2
      injection hrun2 with e1 e2
      subst e1 e2
      refine .inr ⟨(Below.refl _ w).drew.alloc (Nat.le_refl _) _, ?_⟩
      obtain ⟨k1, k2⟩ := h2
      refine ⟨k1, ?_⟩
      rcases k2 with ⟨h5, _⟩ | ⟨g', cap', cur', hv, _, hrest⟩
      · cases h5
      · injection hv with hv1 hv2 hv3
        injection hv1 with hv1
        injection hv1 with hv1
        subst hv1 hv3
        exact .inr ⟨_, _, cur', rfl, Nat.le_refl _, hrest⟩
end
theorem wpList_append_splitK {P : Program} (w : World) {ops : Array Oper} {rest : List Oper} {o : Oper} {a : Act} {Q : Exit → Act → World → Prop} (hgd : o.guard = none) (s x : Operand) (t : TypeId)
    (ho : o.op = .call { callee := .builtin .append, args := #[s, x], argTypes := #[t, t] })
    (B : Nat) (rs : List Ro) (k : Nat) (e : TypeId) (size : Nat) (v : Value) (n : Nat) (xs : List Value) (hr : rs[k]? = some ⟨e, size, v, n, xs⟩) (hO : Owns w B rs) (hB : B ≤ w.heap.size)
    (i : TypeInfo) (z : Value) (bytes : Nat) (hsz : 0 < size) (ht : P.underlying t = some (.slice e)) (hi : P.info? e = some i) (hz : i.zero = some z)
    (hsize : i.size = size) (hby : i.bytes = bytes) (hzs : z.cells.size = size)
    (hs : a.eval s = v)
    (B' : Nat) (A : Option Addr) (m c : Nat) (news : List Value) (hx : a.eval x = .slice A m c) (hn : Reads w B' size A m news) (h1 : ∀ u ∈ news, u.oneCell' = true) (hm : 0 < m)
    (h63 : n + m ≤ maxLen) (hbytes : (n + m) * bytes ≤ 140737488355328)
    (h : ∀ v' w', ((v'.ownBlock = v.ownBlock ∧ Owns w' B (rs.set k ⟨e, size, v', n + m, xs ++ news⟩)) ∨ Owns w' B (rs.set k ⟨e, size, v', n + m, xs ++ news⟩ ++ [⟨e, size, v, n, xs⟩])) → Below B w w' → w.heap.size ≤ w'.heap.size → wpList P ops Q rest (a.put o.dst v') w') : wpList P ops Q (o :: rest) a w := by
  refine wpList_plain hgd fun K hK => ?_
  obtain ⟨v', w', hrun, hown, hg, hat⟩ := run_append_splitK (P := P) w B t o.type e i z size bytes hsz ht hi hz hsize hby hzs v n xs (hO.at_ hr) B' A m c news hn h1 hm h63 hbytes hB
  unfold Oper.wp execOp
  simp only [ho, resolve, invoke, builtin, Sem.run_bind, Sem.run_pure, Result.andThen_ok, List.map_toArray, List.map_cons, List.map_nil, hs, hx, hrun]
  refine hK _ _ (h v' w' ?_ ((Below.refl _ _).grown hg hB (fun j hj => (hO.lt_ (List.mem_of_getElem? hr) hj).1)) hg.size)
  rcases hat with ⟨h2, _⟩ | ⟨h2, h3⟩
  · exact .inl ⟨h2, hO.turn hr hg hown (.inl h2)⟩
  · exact .inr ((hO.push h2 (r := ⟨e, size, v', n + m, xs ++ news⟩) h3 hB).swap (set_perm rs k _ _ hr))
theorem Owns.nilrow {w : World} {B : Nat} {rs : List Ro} (h : Owns w B rs) (e : TypeId) (size : Nat) : Owns w B (rs ++ [⟨e, size, .slice none 0 0, 0, []⟩]) := by
  refine ⟨fun r hr => ?_, ?_⟩
  · rcases List.mem_append.1 hr with hr | hr
    · exact h.1 r hr
    · rw [List.mem_singleton.1 hr]
      exact World.ownsRow_nil _ _ _ _
  · rw [List.pairwise_append]
    refine ⟨h.2, List.pairwise_singleton _ _, fun r _ s hs => ?_⟩
    rw [List.mem_singleton.1 hs]
    cases hv : r.v.ownBlock with
    | none => exact .inl rfl
    | some k => right; simp [Value.ownBlock]
theorem Owns.pick {w : World} {B : Nat} {l m : List Ro} (h : Owns w B l) (d : List Ro)
    (hc : ∀ (cnt : List Ro → Nat) (one : Ro → Nat), (∀ x y, cnt (x ++ y) = cnt x + cnt y) → (∀ x l, cnt (x :: l) = one x + cnt l) → cnt [] = 0 → cnt l = cnt d + cnt m) : Owns w B m := by
  classical
  have hp : l.Perm (d ++ m) := List.perm_iff_count.2 fun a => by
    rw [List.count_append]
    exact hc (fun l => List.count a l) (fun x => if x == a then 1 else 0) (fun x y => List.count_append) (fun x l => by rw [List.count_cons]; omega) rfl
  exact (h.swap hp).sub (List.sublist_append_right _ _)
theorem Owns.perm {w : World} {B : Nat} {l m : List Ro} (h : Owns w B l)
    (hc : ∀ (cnt : List Ro → Nat) (one : Ro → Nat), (∀ x y, cnt (x ++ y) = cnt x + cnt y) → (∀ x l, cnt (x :: l) = one x + cnt l) → cnt [] = 0 → cnt l = cnt m) : Owns w B m :=
  h.pick [] fun cnt one h1 h2 h3 => by rw [h3, hc cnt one h1 h2 h3]; omega
end Go.Proofs.YtmbofpeedjlfhaaDoor
/-
  The walk of playpenkit.ApartTokens, other rows beside the lists.
-/
namespace Go.Proofs.YtmbofpeedjlfhaaDoor
open Go.RowKit Go.PlainAid
set_option linter.unusedVariables false
set_option linter.unusedSimpArgs false

/-- a token: kind, place, text -/
abbrev TokV := Int × Int × ByteArray
def tCells (l : List TokV) : List Value := l.flatMap fun t => [.int .u8 t.1, .int .i64 t.2.1, .string t.2.2]
theorem tCells_len (l : List TokV) : (tCells l).length = l.length * 3 := by
  induction l with
  | nil => rfl
  | cons t l ih =>
    rw [show tCells (t :: l) = [.int .u8 t.1, .int .i64 t.2.1, .string t.2.2] ++ tCells l from rfl, List.length_append, ih, List.length_cons]
    simp only [List.length_cons, List.length_nil]
    omega
theorem tCells_app (a b : List TokV) : tCells (a ++ b) = tCells a ++ tCells b := by simp [tCells]
theorem tCells_tk (s : ByteArray) (l : List Tk) : tkCells s l = tCells (l.map fun t => (t.1, ((t.2.1 : Nat) : Int), s.extract t.2.1 t.2.2)) := by
  induction l with
  | nil => rfl
  | cons t l ih =>
    rw [List.map_cons, show tkCells s (t :: l) = [.int .u8 t.1, .int .i64 t.2.1, .string (s.extract t.2.1 t.2.2)] ++ tkCells s l from rfl, ih]
    rfl
theorem tCells_get : ∀ (l : List TokV) (k : Nat) (t : TokV), l[k]? = some t → (tCells l)[k * 3]? = some (.int .u8 t.1) ∧ (tCells l)[k * 3 + 1]? = some (.int .i64 t.2.1) ∧ (tCells l)[k * 3 + 2]? = some (.string t.2.2) := by
  intro l
  induction l with
  | nil => intro k t h; simp at h
  | cons a l ih =>
    intro k t h
    have e : tCells (a :: l) = [.int .u8 a.1, .int .i64 a.2.1, .string a.2.2] ++ tCells l := rfl
    cases k with
    | zero =>
      simp only [List.getElem?_cons_zero, Option.some.injEq] at h
      subst h
      rw [e]
      exact ⟨rfl, rfl, rfl⟩
    | succ k =>
      rw [List.getElem?_cons_succ] at h
      have h9 := ih k t h
      rw [e, show (k + 1) * 3 = 3 + k * 3 by omega]
      have key : ∀ j, ([Value.int .u8 a.1, .int .i64 a.2.1, .string a.2.2] ++ tCells l)[3 + j]? = (tCells l)[j]? := fun j => by
        rw [List.getElem?_append_right (by simp)]
        simp
      rw [key, show 3 + k * 3 + 1 = 3 + (k * 3 + 1) by omega, show 3 + k * 3 + 2 = 3 + (k * 3 + 2) by omega, key, key]
      exact h9
theorem tCells_set (X : List TokV) : ∀ (j : Nat) (t : TokV), (((tCells X).set (j * 3) (.int .u8 t.1)).set (j * 3 + 1) (.int .i64 t.2.1)).set (j * 3 + 2) (.string t.2.2) = tCells (X.set j t) := by
  induction X with
  | nil => intro j t; simp [tCells]
  | cons a r ih =>
    intro j t
    have e : tCells (a :: r) = .int .u8 a.1 :: .int .i64 a.2.1 :: .string a.2.2 :: tCells r := rfl
    rw [e]
    cases j with
    | zero => rfl
    | succ j =>
      rw [show (j + 1) * 3 = j * 3 + 1 + 1 + 1 by omega, show j * 3 + 1 + 1 + 1 + 1 = (j * 3 + 1) + 1 + 1 + 1 by omega, show j * 3 + 1 + 1 + 1 + 2 = (j * 3 + 2) + 1 + 1 + 1 by omega]
      simp only [List.set_cons_succ, ih j t]
      rfl
/-- the place in the mark of place i of list k -/
theorem markA_ex (k i : Int) : ∃ m : Int, ∀ w, Calls Tryd.prog 33 #[.int .i64 k, .int .i64 i] w fun e w' => e = .returned (.agg #[.int .u8 99, .int .i64 m, .string ⟨#[]⟩]) ∧ Below w.heap.size w w' := by
  apply Exists.intro
  intro w
  go_enter Tryd.func33, Tryd.ntmps33
  go_wp2
  exact bodyPost_ret (v := .agg #[.int .u8 99, .int .i64 (wrap64 (wrap64 (1000003 * wrap64 (k + 1)) + i)), .string ⟨#[]⟩]) (by simp [results, Tryd.results33, go_sem]) rfl ⟨rfl, (Below.refl _ w).alloc (Nat.le_refl _) _⟩
noncomputable def mkA (k i : Int) : Int := Classical.choose (markA_ex k i)
theorem markTokens_any (k i : Int) (w : World) : Calls Tryd.prog 33 #[.int .i64 k, .int .i64 i] w fun e w' => e = .returned (.agg #[.int .u8 99, .int .i64 (mkA k i), .string ⟨#[]⟩]) ∧ Below w.heap.size w w' := Classical.choose_spec (markA_ex k i) w
noncomputable def mkTok (k i : Int) : TokV := (99, mkA k i, ⟨#[]⟩)
noncomputable def marks3 (k : Int) (n : Nat) : List TokV := (List.range n).map fun i => mkTok k (i : Nat)
theorem marks3_succ (k : Int) (n : Nat) : marks3 k (n + 1) = marks3 k n ++ [mkTok k (n : Nat)] := by simp [marks3, List.range_succ]
theorem marks3_len (k : Int) (n : Nat) : (marks3 k n).length = n := by simp [marks3]

/-- a row of tokens -/
def rowB (vs : Nat → Value) (ns : Nat → Nat) (fs : Nat → List TokV) (j : Nat) : Ro := ⟨36, 3, vs j, ns j, tCells (fs j)⟩
def updF (f : Nat → List TokV) (k : Nat) (x : List TokV) : Nat → List TokV := fun j => if j = k then x else f j
/-- the lists, the first k of them marked -/
noncomputable def markF (ns : Nat → Nat) (fs : Nat → List TokV) (k : Nat) : Nat → List TokV := fun j => if j < k then marks3 ((j : Int) + 1) (ns j) else fs j
def lsRow (AL : Option Addr) (K cL : Nat) (vs : Nat → Value) : Ro := ⟨24, 1, .slice AL K cL, K, (List.range K).map vs⟩
theorem ls_some {W : World} {B K cL : Nat} {AL : Option Addr} {vs : Nat → Value} {r : Nat → Ro} {ex : List Ro} (h : Owns W B (rowsF K r ++ lsRow AL K cL vs :: ex)) (hK : 0 < K) : ∃ G, AL = some ⟨G, 0, none⟩ := by
  have h1 := h.at_ (i := K + 0) (rowsF_ex r (lsRow AL K cL vs) ex 0)
  obtain ⟨g, c', h4⟩ := ownsRow_some h1 hK
  have h5 : Value.slice AL K cL = .slice (some ⟨g, 0, none⟩) K c' := h4
  injection h5 with h5
  exact ⟨g, h5⟩
theorem row_upd {K k : Nat} {vs : Nat → Value} {ns : Nat → Nat} {fs : Nat → List TokV} {x : List TokV} (_hk : k < K) : rowsF K (updR (rowB vs ns fs) k ⟨36, 3, vs k, ns k, tCells x⟩) = rowsF K (rowB vs ns (updF fs k x)) :=
  rowsF_congr fun j _ => by
    unfold updR rowB updF
    by_cases h : j = k
    · subst h; simp
    · simp [h]
theorem mark_step (ns : Nat → Nat) (fs : Nat → List TokV) (k : Nat) : markF ns fs (k + 1) = updF (markF ns fs k) k (marks3 ((k : Int) + 1) (ns k)) := by
  funext j
  unfold markF updF
  dsimp only
  by_cases h : j = k
  · subst h; simp
  · by_cases h2 : j < k
    · rw [if_pos (by omega), if_neg h, if_pos h2]
    · rw [if_neg (by omega), if_neg h, if_neg h2]
theorem upd_self (f : Nat → List TokV) (k : Nat) : updF f k (f k) = f := by
  funext j
  unfold updF
  by_cases h : j = k
  · subst h; simp
  · rw [if_neg h]
theorem upd_upd (f : Nat → List TokV) (k : Nat) (x y : List TokV) : updF (updF f k x) k y = updF f k y := by
  funext j
  unfold updF
  by_cases h : j = k <;> simp [h]
theorem over_set3 (q : Int) (xs : List TokV) (j : Nat) (h : j < xs.length) : (marks3 q j ++ xs.drop j).set j (mkTok q j) = marks3 q (j + 1) ++ xs.drop (j + 1) := by
  rw [List.drop_eq_getElem_cons h, List.set_append_right _ _ (by rw [marks3_len]; omega), marks3_len, Nat.sub_self, List.set_cons_zero, marks3_succ]
  simp
theorem apart_row {K k : Nat} {vs : Nat → Value} {ns : Nat → Nat} {f : Nat → List TokV} {ex : List Ro} (hk : k < K) (X : List TokV) {g n c1 : Nat} (hv : vs k = .slice (some ⟨g, 0, none⟩) n c1) (hn : n = ns k) :
    (rowsF K (rowB vs ns (updF f k X)) ++ ex)[k]? = some ⟨36, 3, .slice (some ⟨g, 0, none⟩) n c1, n, tCells X⟩ := by
  rw [rowsF_get _ _ hk]
  unfold rowB
  rw [hv, ← hn]
  simp [updF]
theorem apart_store {W : World} {B K k : Nat} {vs : Nat → Value} {ns : Nat → Nat} {f : Nat → List TokV} {ex : List Ro} (hk : k < K) (X : List TokV) {g n c1 j : Nat} (hv : vs k = .slice (some ⟨g, 0, none⟩) n c1) (hn : n = ns k)
    (h : Owns W B (rowsF K (rowB vs ns (updF f k X)) ++ ex)) (hj : j < X.length) (m : TokV) : Owns (((W.setCell ⟨g, j * 3, none⟩ (.int .u8 m.1)).setCell ⟨g, j * 3 + 1, none⟩ (.int .i64 m.2.1)).setCell ⟨g, j * 3 + 2, none⟩ (.string m.2.2)) B (rowsF K (rowB vs ns (updF f k (X.set j m))) ++ ex) := by
  have hl : (tCells X).length = X.length * 3 := tCells_len X
  have hr := apart_row (ex := ex) (f := f) hk X hv hn
  have hlen : k < (rowsF K (rowB vs ns (updF f k X)) ++ ex).length := (List.getElem?_eq_some_iff.1 hr).1
  have h1 := h.store hr (j := j * 3) (by omega) (.int .u8 m.1)
  have h2 := h1.store (i := k) (by rw [List.getElem?_set_self hlen]) (j := j * 3 + 1) (by rw [List.length_set]; omega) (.int .i64 m.2.1)
  rw [List.set_set] at h2
  have h3 := h2.store (i := k) (by rw [List.getElem?_set_self hlen]) (j := j * 3 + 2) (by rw [List.length_set, List.length_set]; omega) (.string m.2.2)
  rw [List.set_set, tCells_set X j m, rowsF_set _ _ _ hk] at h3
  have e : rowsF K (updR (rowB vs ns (updF f k X)) k ⟨36, 3, .slice (some ⟨g, 0, none⟩) n c1, n, tCells (X.set j m)⟩) = rowsF K (rowB vs ns (updF f k (X.set j m))) := by
    rw [← upd_upd f k X (X.set j m), ← row_upd hk, hv, hn]
  rw [e] at h3
  exact h3
/-! ### the second phase -/
noncomputable def mkU (j n : Nat) : List Value := tCells (marks3 ((j : Int) + 1) n)
theorem mkU_succ (j n : Nat) : mkU j (n + 1) = mkU j n ++ [.int .u8 99, .int .i64 (mkA ((j : Int) + 1) n), .string ⟨#[]⟩] := by unfold mkU; rw [marks3_succ, tCells_app]; rfl
theorem mkU_get (j n i : Nat) (h : i < n) : (mkU j n)[i * 3]? = some (.int .u8 99) ∧ (mkU j n)[i * 3 + 1]? = some (.int .i64 (mkA ((j : Int) + 1) i)) ∧ (mkU j n)[i * 3 + 2]? = some (.string ⟨#[]⟩) := by
  unfold mkU
  exact tCells_get (marks3 ((j : Int) + 1) n) i (mkTok ((j : Int) + 1) i) (by simp [marks3, h])
/-- some row holds what stood there -/
def OldOk (rs : List Ro) (v : Value) (ys : List Value) : Prop := ∃ r ∈ rs, r.e = 36 ∧ r.size = 3 ∧ r.v.ownBlock = v.ownBlock ∧ ys <+: r.xs
theorem OldOk.set {rs : List Ro} {v : Value} {ys : List Value} (h : OldOk rs v ys) {k : Nat} {old : Ro} (hk : rs[k]? = some old) (new : Ro)
    (hne : old.e ≠ 36 ∨ (new.e = 36 ∧ new.size = 3 ∧ new.v.ownBlock = old.v.ownBlock ∧ old.xs <+: new.xs)) : OldOk (rs.set k new) v ys := by
  obtain ⟨r, hr, h1, h2, h3, h4⟩ := h
  obtain ⟨i, hi⟩ := List.mem_iff_getElem?.1 hr
  have hkl : k < rs.length := (List.getElem?_eq_some_iff.1 hk).1
  by_cases hik : k = i
  · subst hik
    rw [hk] at hi
    injection hi with hi
    subst hi
    rcases hne with hne | ⟨g1, g2, g3, g4⟩
    · exact absurd h1 hne
    · exact ⟨new, List.mem_iff_getElem?.2 ⟨k, by rw [List.getElem?_set_self hkl]⟩, g1, g2, g3.trans h3, h4.trans g4⟩
  · exact ⟨r, List.mem_iff_getElem?.2 ⟨i, by rw [List.getElem?_set_ne hik]; exact hi⟩, h1, h2, h3, h4⟩
theorem OldOk.moved {rs : List Ro} {v : Value} {ys : List Value} (h : OldOk rs v ys) {k : Nat} {old : Ro} (hk : rs[k]? = some old) (new : Ro) : OldOk (rs.set k new ++ [old]) v ys := by
  obtain ⟨r, hr, hh⟩ := h
  obtain ⟨i, hi⟩ := List.mem_iff_getElem?.1 hr
  by_cases hik : k = i
  · subst hik
    rw [hk] at hi
    injection hi with hi
    subst hi
    exact ⟨old, by simp, hh⟩
  · exact ⟨r, List.mem_append_left _ (List.mem_iff_getElem?.2 ⟨i, by rw [List.getElem?_set_ne hik]; exact hi⟩), hh⟩
theorem OldOk.cell {w : World} {B : Nat} {rs : List Ro} {g n c j : Nat} {ys : List Value} {u : Value} (h : OldOk rs (.slice (some ⟨g, 0, none⟩) n c) ys) (hO : Owns w B rs) (hu : ys[j]? = some u) : w.cell? ⟨g, j, none⟩ = some u := by
  obtain ⟨r, hr, h1, h2, h3, h4⟩ := h
  have hrow := hO.1 r hr
  rw [h1, h2] at hrow
  have hx : r.xs[j]? = some u := by
    obtain ⟨t, ht⟩ := h4
    rw [← ht, List.getElem?_append_left (List.getElem?_eq_some_iff.1 hu).1]
    exact hu
  have := hrow.cells (g := g) (by rw [h3]; rfl) j u hx
  have e1 : (⟨g, 0, none⟩ : Addr).add j = ⟨g, j, none⟩ := by unfold Addr.add; split <;> simp_all
  rwa [e1] at this
def gsRow (v : Value) (k : Nat) (r : Nat → Ro) : Ro := ⟨24, 1, v, k, (List.range k).map fun j => (r j).v⟩
/-- the rows while the first k lists are grown, the next one by i -/
def Pat (K : Nat) (vs : Nat → Value) (ns : Nat → Nat) (r : Nat → Ro) (k i : Nat) : Prop :=
  ∀ j, j < K → r j = ⟨36, 3, (r j).v, ns j + (if j < k then 64 else if j = k then i else 0), mkU j (ns j + (if j < k then 64 else if j = k then i else 0))⟩ ∧ (k < j ∨ (k = j ∧ i = 0) → (r j).v = vs j)
theorem Pat.at_ {K : Nat} {vs : Nat → Value} {ns : Nat → Nat} {r : Nat → Ro} {k i : Nat} (h : Pat K vs ns r k i) (hk : k < K) : r k = ⟨36, 3, (r k).v, ns k + i, mkU k (ns k + i)⟩ := by
  have := (h k hk).1
  rw [if_neg (by omega), if_pos rfl] at this
  exact this
theorem Pat.step {K : Nat} {vs : Nat → Value} {ns : Nat → Nat} {r : Nat → Ro} {k i : Nat} (h : Pat K vs ns r k i) (v' : Value) : Pat K vs ns (updR r k ⟨36, 3, v', ns k + i + 1, mkU k (ns k + i + 1)⟩) k (i + 1) := by
  intro j hj
  unfold updR
  by_cases e : j = k
  · subst e
    rw [if_pos rfl, if_neg (by omega), if_pos rfl]
    exact ⟨rfl, fun x => by omega⟩
  · rw [if_neg e]
    have := h j hj
    rw [if_neg e] at this ⊢
    exact ⟨this.1, fun x => this.2 (by omega)⟩
theorem Pat.next {K : Nat} {vs : Nat → Value} {ns : Nat → Nat} {r : Nat → Ro} {k : Nat} (h : Pat K vs ns r k 64) : Pat K vs ns r (k + 1) 0 := by
  intro j hj
  have := h j hj
  by_cases e : j < k
  · rw [if_pos e] at this
    rw [if_pos (by omega)]
    exact ⟨this.1, fun x => by omega⟩
  · by_cases e2 : j = k
    · subst e2
      rw [if_neg e, if_pos rfl] at this
      rw [if_pos (by omega)]
      exact ⟨this.1, fun x => by omega⟩
    · rw [if_neg e, if_neg e2] at this
      rw [if_neg (by omega)]
      refine ⟨?_, fun x => this.2 (by omega)⟩
      have e3 : (if j = k + 1 then 0 else 0) = 0 := by split <;> rfl
      rw [e3]
      exact this.1
theorem gsRow_upd (v : Value) (k : Nat) (r : Nat → Ro) (x : Ro) : gsRow v k (updR r k x) = gsRow v k r := by
  unfold gsRow
  congr 1
  exact List.map_congr_left (fun j hj => by unfold updR; rw [if_neg (by have := List.mem_range.1 hj; omega)])
theorem gsRow_next (v : Value) (k : Nat) (r : Nat → Ro) : (⟨24, 1, v, k + 1, ((List.range k).map fun j => (r j).v) ++ [(r k).v]⟩ : Ro) = gsRow v (k + 1) r := by
  unfold gsRow
  rw [List.range_succ]
  simp
theorem rowsF_set2 {K : Nat} (r : Nat → Ro) (a b x : Ro) (ex : List Ro) : (rowsF K r ++ a :: b :: ex).set (K + 1) x = rowsF K r ++ a :: x :: ex := by
  rw [List.set_append_right _ _ (by rw [rowsF_len]; omega), rowsF_len, Nat.add_sub_cancel_left]
  rfl
theorem Pat.done {K : Nat} {vs : Nat → Value} {ns : Nat → Nat} {r : Nat → Ro} {j : Nat} (h : Pat K vs ns r K 0) (hj : j < K) : r j = ⟨36, 3, (r j).v, ns j + 64, mkU j (ns j + 64)⟩ := by
  have := (h j hj).1
  rw [if_pos hj] at this
  exact this
theorem apart_last {W : World} {B m q G n c cL : Nat} {vs : Nat → Value} {ns : Nat → Nat} {r : Nat → Ro} {ex : List Ro} {gv : Value} {A : Option Addr}
    (hO : Owns W B (rowsF m r ++ lsRow (some ⟨G, 0, none⟩) m cL vs :: gsRow gv m r :: ex)) (hP : Pat m vs ns r m 0) (hq : q < m) (hOL : OldOk (rowsF m r ++ lsRow (some ⟨G, 0, none⟩) m cL vs :: gsRow gv m r :: ex) (vs q) (mkU q (ns q)))
    (hv : vs q = .slice A n c) (hn : n = ns q) (hA : 0 < n → ∃ g, A = some ⟨g, 0, none⟩) :
    ∃ g' cg g5 c5, gv = .slice (some ⟨g', 0, none⟩) m cg ∧ W.cell? ⟨g', q, none⟩ = some (.slice (some ⟨g5, 0, none⟩) (n + 64) c5) ∧ W.cell? ⟨G, q, none⟩ = some (.slice A n c) ∧ g' < W.heap.size ∧ G < W.heap.size ∧ g5 < W.heap.size ∧
      (∀ i, i < n + 64 → W.cell? ⟨g5, i * 3, none⟩ = some (.int .u8 99) ∧ W.cell? ⟨g5, i * 3 + 1, none⟩ = some (.int .i64 (mkA ((q : Int) + 1) i)) ∧ W.cell? ⟨g5, i * 3 + 2, none⟩ = some (.string ⟨#[]⟩)) ∧
      (∀ i, i < n → ∃ g, A = some ⟨g, 0, none⟩ ∧ g < W.heap.size ∧ W.cell? ⟨g, i * 3, none⟩ = some (.int .u8 99) ∧ W.cell? ⟨g, i * 3 + 1, none⟩ = some (.int .i64 (mkA ((q : Int) + 1) i)) ∧ W.cell? ⟨g, i * 3 + 2, none⟩ = some (.string ⟨#[]⟩)) := by
  subst hn
  have hgs : (rowsF m r ++ lsRow (some ⟨G, 0, none⟩) m cL vs :: gsRow gv m r :: ex)[m + 1]? = some (gsRow gv m r) := rowsF_ex r (lsRow (some ⟨G, 0, none⟩) m cL vs) (gsRow gv m r :: ex) 1
  obtain ⟨g', cg, hgv⟩ := ownsRow_some (hO.at_ hgs) (show 0 < m by omega)
  have hgv' : gv = .slice (some ⟨g', 0, none⟩) m cg := hgv
  subst hgv'
  have hrow := rowsF_get r (lsRow (some ⟨G, 0, none⟩) m cL vs :: gsRow (.slice (some ⟨g', 0, none⟩) m cg) m r :: ex) hq
  have hd := hP.done hq
  rw [hd] at hrow
  obtain ⟨g5, c5, h5⟩ := ownsRow_some (hO.at_ hrow) (show 0 < ns q + 64 by omega)
  have h6 : (r q).v = .slice (some ⟨g5, 0, none⟩) (ns q + 64) c5 := h5
  rw [h6] at hrow
  have hls := rowsF_ex (K := m) r (lsRow (some ⟨G, 0, none⟩) m cL vs) (gsRow (.slice (some ⟨g', 0, none⟩) m cg) m r :: ex) 0
  refine ⟨g', cg, g5, c5, rfl, ?_, ?_, (hO.base hgs).2, (hO.base (i := m + 0) hls).2, (hO.base hrow).2, ?_, ?_⟩
  · have := hO.cell hgs (j := q) (u := (r q).v) (by simp [hq])
    rw [this, h6]
  · have := hO.cell (i := m + 0) hls (j := q) (u := vs q) (by simp [hq])
    rw [this, hv]
  · intro i hi
    obtain ⟨t0, t1, t2⟩ := mkU_get q _ i hi
    exact ⟨hO.cell hrow t0, hO.cell hrow t1, hO.cell hrow t2⟩
  · intro i hi
    obtain ⟨g, rfl⟩ := hA (by omega)
    rw [hv] at hOL
    obtain ⟨t0, t1, t2⟩ := mkU_get q _ i hi
    refine ⟨g, rfl, ?_, hOL.cell hO t0, hOL.cell hO t1, hOL.cell hO t2⟩
    exact World.block_lt_of_cell? W _ (hOL.cell hO t0)
end Go.Proofs.YtmbofpeedjlfhaaDoor
namespace Go.Proofs.YtmbofpeedjlfhaaDoor
open Go.RowKit Go.PlainAid Go.BigFrame
set_option linter.unusedVariables false
set_option linter.unusedSimpArgs false

theorem below_draws2 {B : Nat} {a w : World} (h : Below B a w) (k : Nat) : Below B a (w.drewN k) := ⟨h.os, h.tape, h.output, h.size, h.block⟩
theorem apk_info : (Tryd.prog.info? 24).map (fun i => (i.zero, i.size, i.bytes)) = some (some (.slice none 0 0), 1, 24) := by kernel_rfl
set_option maxRecDepth 100000 in
set_option maxHeartbeats 4000000 in
theorem ApartK_any (AL : Option Addr) (K cL B : Nat) (vs : Nat → Value) (ns : Nat → Nat) (fs : Nat → List TokV) (ex0 : List Ro) (w : World) (hO : Owns w B (rowsF K (rowB vs ns fs) ++ lsRow AL K cL vs :: ex0)) (hlen : ∀ j, j < K → (fs j).length = ns j) (hB : B ≤ w.heap.size)
    (hn : ∀ j, j < K → ns j ≤ 1048576) (hK : K ≤ 1048576) :
    Calls Tryd.prog 12 #[.slice AL K cL] w fun e w' => e = .returned (.bool true) ∧ Owns w' B ex0 ∧ Below B w w' := by
  obtain ⟨i0, hi0, hz0, hz1, hz2⟩ := info_parts token_info
  obtain ⟨i1, hi1, hy0, hy1, hy2⟩ := info_parts apk_info
  have HLEN := hide_ hlen
  have HN := hide_ hn
  have HBS := hide_ hB
  clear hlen hn
  go_enter Tryd.func12, Tryd.ntmps12
  go_wp2
  go_loopw [3] (fun i wr => ∃ k : Nat, k ≤ K ∧ i = .int .i64 k ∧ Owns wr B (rowsF K (rowB vs ns (markF ns fs k)) ++ lsRow AL K cL vs :: ex0) ∧ Below B w wr) (fun i _ => K - (intOf i).toNat)
  case atStart =>
    refine ⟨0, Nat.zero_le _, rfl, ?_, Below.refl _ _⟩
    have : markF ns fs 0 = fs := by funext j; simp [markF]
    rw [this]
    exact hO
  case round =>
    obtain ⟨k, hk, rfl, hOk, hb⟩ := hrel
    by_cases hlt : k < K
    · obtain ⟨G, rfl⟩ := ls_some hOk (show 0 < K by omega)
      have hnk := HN.out k hlt
      obtain ⟨A0, c0, hv0, hc0, hc1⟩ := ownsRow_slice (hOk.at_ (rowsF_get (rowB vs ns (markF ns fs k)) (lsRow (some ⟨G, 0, none⟩) K cL vs :: ex0) hlt))
      have hv1 : vs k = .slice A0 (ns k) c0 := hv0
      have hc0' : ns k ≤ c0 := hc0
      have hc1' : c0 ≤ maxLen := hc1
      obtain ⟨n, hnn⟩ : ∃ n, n = ns k := ⟨_, rfl⟩
      rw [← hnn] at hnk hc0' hv1
      have HNN := hide_ hnn
      have HV := hide_ hv1
      clear hv0 hv1 hc0 hc1 hnn hO
      have hls : ∀ (W : World) (f : Nat → List TokV), Owns W B (rowsF K (rowB vs ns f) ++ lsRow (some ⟨G, 0, none⟩) K cL vs :: ex0) → W.cell? ⟨G, k, none⟩ = some (.slice A0 n c0) ∧ G < W.heap.size := fun W f h => by
        have := h.cell (i := K + 0) (rowsF_ex (rowB vs ns f) (lsRow (some ⟨G, 0, none⟩) K cL vs) ex0 0) (j := k) (u := vs k) (by simp [hlt])
        exact ⟨by rw [this, HV.out], (h.base (i := K + 0) (rowsF_ex (rowB vs ns f) (lsRow (some ⟨G, 0, none⟩) K cL vs) ex0 0)).2⟩
      have HLS := hide_ hls
      obtain ⟨hcl, hGl⟩ := hls wr _ hOk
      clear hls
      go_wp2
      go_loopw [4] (fun i wr => ∃ j : Nat, j ≤ n ∧ i = .int .i64 j ∧ Owns wr B (rowsF K (rowB vs ns (updF (markF ns fs k) k (marks3 ((k : Int) + 1) j ++ (fs k).drop j))) ++ lsRow (some ⟨G, 0, none⟩) K cL vs :: ex0) ∧ Below B w wr) (fun i _ => n - (intOf i).toNat)
      case atStart =>
        refine ⟨0, Nat.zero_le _, rfl, ?_, hb⟩
        have e1 : marks3 ((k : Int) + 1) 0 ++ (fs k).drop 0 = markF ns fs k k := by simp [marks3, markF]
        rw [e1, upd_self]
        exact hOk
      case round =>
        obtain ⟨j, hj, rfl, hOj, hbj⟩ := hrel
        obtain ⟨hcj, hGj⟩ := HLS.out wr _ hOj
        by_cases hlt2 : j < n
        · have hrow := hOj.at_ (rowsF_get (rowB vs ns (updF (markF ns fs k) k (marks3 ((k : Int) + 1) j ++ (fs k).drop j))) (lsRow (some ⟨G, 0, none⟩) K cL vs :: ex0) hlt)
          obtain ⟨g, c1, hv2⟩ := ownsRow_some hrow (show 0 < ns k by rw [← HNN.out]; omega)
          have hv3 : vs k = .slice (some ⟨g, 0, none⟩) (ns k) c1 := hv2
          rw [HV.out] at hv3
          injection hv3 with e1 e2 e3
          subst e1 e3
          obtain ⟨X, hX⟩ : ∃ X, X = marks3 ((k : Int) + 1) j ++ (fs k).drop j := ⟨_, rfl⟩
          have hjf : j < (fs k).length := by rw [HLEN.out k hlt, ← HNN.out]; exact hlt2
          have hXl : j < X.length := by rw [hX, List.length_append, marks3_len, List.length_drop]; omega
          rw [← hX] at hOj
          have hrk := apart_row (ex := lsRow (some ⟨G, 0, none⟩) K cL vs :: ex0) (f := markF ns fs k) hlt X HV.out HNN.out
          obtain ⟨t0, t1, t2⟩ := tCells_get X j _ (List.getElem?_eq_getElem hXl)
          have x0 := hOj.cell hrk t0
          have x1 := hOj.cell hrk t1
          have x2 := hOj.cell hrk t2
          have f0 := hOj.frozen hrk (j * 3)
          have f1 := hOj.frozen hrk (j * 3 + 1)
          have f2 := hOj.frozen hrk (j * 3 + 2)
          obtain ⟨y0, hy0'⟩ : ∃ y, y = X[j].1 := ⟨_, rfl⟩
          obtain ⟨y1, hy1'⟩ : ∃ y, y = X[j].2.1 := ⟨_, rfl⟩
          obtain ⟨y2, hy2'⟩ : ∃ y, y = X[j].2.2 := ⟨_, rfl⟩
          rw [← hy0'] at x0
          rw [← hy1'] at x1
          rw [← hy2'] at x2
          clear hy0' hy1' hy2'
          have hST : ∀ W : World, Owns W B (rowsF K (rowB vs ns (updF (markF ns fs k) k X)) ++ lsRow (some ⟨G, 0, none⟩) K cL vs :: ex0) → Owns (((W.setCell ⟨g, j * 3, none⟩ (.int .u8 99)).setCell ⟨g, j * 3 + 1, none⟩ (.int .i64 (mkA ((k : Int) + 1) j))).setCell ⟨g, j * 3 + 2, none⟩ (.string ⟨#[]⟩)) B (rowsF K (rowB vs ns (updF (markF ns fs k) k (marks3 ((k : Int) + 1) (j + 1) ++ (fs k).drop (j + 1)))) ++ lsRow (some ⟨G, 0, none⟩) K cL vs :: ex0) := fun W hW => by
            have := apart_store hlt X HV.out HNN.out hW hXl (mkTok ((k : Int) + 1) j)
            rw [hX, over_set3 _ _ _ hjf] at this
            exact this
          have hgb := hOj.base hrk
          have HST := hide_ hST
          have HOJ := hide_ hOj
          have HBJ := hide_ hbj
          have HSZ := hide_ hbj.size
          have HMK := hide_ (fun W => markTokens_any ((k : Int) + 1) (j : Int) W)
          obtain ⟨mk, hmk⟩ : ∃ mk, mk = mkA ((k : Int) + 1) (j : Int) := ⟨_, rfl⟩
          rw [← hmk] at HMK HST
          have hw1 : IntKind.i64.wrap ((k : Int) + 1) = (k : Int) + 1 := by rw [IntKind.wrap_i64]; omega
          have hg1 := hgb.1
          have hg2 := hgb.2
          clear hST hX hXl hrow hv2 hOk hOj hcl hrk t0 t1 t2 hb hbj hmk hgb hGl e2
          go_upto_region 7 with (fail)
          go_region_with (go_at_call 33; refine (HMK.out _).mono ?_; rintro e w7 ⟨rfl, hb7⟩; have q1 := (hb7.cell (p := ⟨G, k, none⟩) hGj).trans hcj; have q2 := (hb7.cell (p := ⟨g, j * 3, none⟩) hg2).trans x0; have q3 := (hb7.cell (p := ⟨g, j * 3 + 1, none⟩) hg2).trans x1; have q4 := (hb7.cell (p := ⟨g, j * 3 + 2, none⟩) hg2).trans x2; have q5 := (hb7.frozen (p := ⟨g, j * 3, none⟩) hg2).trans f0; have q6 := (hb7.frozen (p := ⟨g, j * 3 + 1, none⟩) hg2).trans f1; have q7 := (hb7.frozen (p := ⟨g, j * 3 + 2, none⟩) hg2).trans f2; have HB7 := hide_ hb7; clear hb7)
          all_goals
            clear hcj x0 x1 x2 f0 f1 f2 q1 q2 q3 q4 q5 q6 q7
            go_wp2
            go_roundw
            case rel => exact ⟨j + 1, by omega, by go_num, HST.out _ (HOJ.out.drew.below HB7.out), ((((HBJ.out.drew).trans (HB7.out.mono (Nat.le_trans HBS.out HSZ.out))).setCell (p := ⟨g, j * 3, none⟩) hg1 _).setCell (p := ⟨g, j * 3 + 1, none⟩) hg1 _).setCell (p := ⟨g, j * 3 + 2, none⟩) hg1 _⟩
            case measure => simp [intOf]; omega
        · obtain rfl : j = n := by omega
          have hfl : (fs k).drop j = [] := List.drop_eq_nil_of_le (by rw [HLEN.out k hlt, ← HNN.out]; omega)
          rw [hfl, List.append_nil] at hOj
          have hms := mark_step ns fs k
          rw [← HNN.out] at hms
          have HMS := hide_ hms
          clear hfl hms hcl hOk
          go_wp2
          go_roundw
          case rel =>
            refine ⟨k + 1, by omega, by go_num, ?_, hbj⟩
            rw [HMS.out]
            exact hOj
          case measure => simp [intOf]; omega
    · obtain rfl : k = K := by omega
      have hP0 : Pat k vs ns (rowB vs ns (markF ns fs k)) 0 0 := fun j hj => by
        have e3 : (if j < 0 then 64 else if j = 0 then 0 else 0) = 0 := by split <;> (try split) <;> first | rfl | omega
        rw [e3, Nat.add_zero]
        refine ⟨?_, fun _ => rfl⟩
        unfold rowB mkU markF
        rw [if_pos hj]
      have hold : ∀ j, j < k → OldOk (rowsF k (rowB vs ns (markF ns fs k)) ++ lsRow AL k cL vs :: gsRow (.slice none 0 0) 0 (rowB vs ns (markF ns fs k)) :: ex0) (vs j) (mkU j (ns j)) := fun j hj =>
        ⟨rowB vs ns (markF ns fs k) j, List.mem_of_getElem? (rowsF_get _ _ hj), rfl, rfl, rfl, by unfold rowB mkU markF; rw [if_pos hj]; exact List.prefix_refl _⟩
      have hvs : ∀ j, j < k → ∃ A c, vs j = .slice A (ns j) c ∧ (0 < ns j → ∃ g, A = some ⟨g, 0, none⟩) := fun j hj => by
        have h1 := hOk.at_ (rowsF_get (rowB vs ns (markF ns fs k)) (lsRow AL k cL vs :: ex0) hj)
        obtain ⟨A, c, h2, _, _⟩ := ownsRow_slice h1
        have h3 : vs j = .slice A (ns j) c := h2
        refine ⟨A, c, h3, fun h0 => ?_⟩
        obtain ⟨g, c', h4⟩ := ownsRow_some h1 h0
        have h5 : vs j = .slice (some ⟨g, 0, none⟩) (ns j) c' := h4
        rw [h3] at h5
        injection h5 with h5
        exact ⟨g, h5⟩
      have HVS := hide_ hvs
      clear hvs
      have hO2 : Owns wr B (rowsF k (rowB vs ns (markF ns fs k)) ++ lsRow AL k cL vs :: gsRow (.slice none 0 0) 0 (rowB vs ns (markF ns fs k)) :: ex0) := by
        have h1 := hOk.nilrow 24 1
        exact h1.swap (by
          rw [List.append_assoc, List.cons_append]
          refine List.Perm.append_left _ (List.Perm.cons _ ?_)
          exact List.perm_append_singleton _ _)
      have HP0 := hide_ hP0
      have HOLD := hide_ hold
      have HO2 := hide_ hO2
      have HB2 := hide_ hb
      clear hP0 hold hOk hO hO2 hb
      go_wp2
      go_loopw [5, 6] (fun gv i wr => ∃ (m : Nat) (r : Nat → Ro) (ex : List Ro), m ≤ k ∧ i = .int .i64 m ∧ Hid (Pat k vs ns r m 0) ∧ Hid (Owns wr B (rowsF k r ++ lsRow AL k cL vs :: gsRow gv m r :: (ex0 ++ ex))) ∧ Hid (∀ j, j < k → OldOk (rowsF k r ++ lsRow AL k cL vs :: gsRow gv m r :: (ex0 ++ ex)) (vs j) (mkU j (ns j))) ∧ Below B w wr) (fun _ i _ => k - (intOf i).toNat)
      case atStart => exact ⟨0, _, [], Nat.zero_le _, rfl, HP0, hide_ (by rw [List.append_nil]; exact HO2.out), hide_ (by rw [List.append_nil]; exact HOLD.out), HB2.out⟩
      case round =>
        clear HO2 HP0 HOLD HB2
        obtain ⟨m, r, ex, hm, rfl, HP, HO, HOL, hb2⟩ := hrel
        have HB2 := hide_ hb2
        by_cases hlt : m < k
        · obtain ⟨G, rfl⟩ := ls_some HO.out (show 0 < k by omega)
          have hnm := HN.out m hlt
          have hv1 := (HP.out m hlt).2 (.inr ⟨rfl, rfl⟩)
          obtain ⟨A0, c0, hv0, hc0, hc1⟩ := ownsRow_slice (HO.out.at_ (rowsF_get r _ hlt))
          have hrm := HP.out.at_ hlt
          have hv2 : (r m).v = .slice A0 (ns m) c0 := by rw [hv0, hrm]; rfl
          have hv3 : vs m = .slice A0 (ns m) c0 := by rw [← hv1, hv2]
          obtain ⟨n, hnn⟩ : ∃ n, n = ns m := ⟨_, rfl⟩
          rw [← hnn] at hv2 hv3 hnm
          have HNN := hide_ hnn
          have HV2 := hide_ hv2
          have HV3 := hide_ hv3
          have hcl : ∀ (W : World) (r : Nat → Ro) (gv : Value) (q : Nat) (ex : List Ro), Owns W B (rowsF k r ++ lsRow (some ⟨G, 0, none⟩) k cL vs :: gsRow gv q r :: ex) → W.cell? ⟨G, m, none⟩ = some (.slice A0 n c0) ∧ G < W.heap.size := fun W r gv q ex h => by
            have h9 := rowsF_ex (K := k) r (lsRow (some ⟨G, 0, none⟩) k cL vs) (gsRow gv q r :: ex) 0
            have := h.cell (i := k + 0) h9 (j := m) (u := vs m) (by simp [hlt])
            exact ⟨by rw [this, HV3.out], (h.base (i := k + 0) h9).2⟩
          have HCL := hide_ hcl
          obtain ⟨hcl0, hGl⟩ := hcl wr r _ _ _ HO.out
          clear hcl hv0 hv1 hv2 hv3 hrm hnn hc0 hc1 hb2
          obtain ⟨Ag, cg, hgv, hcg0, hcg1⟩ := ownsRow_slice (HO.out.at_ (i := k + 1) (rowsF_ex r (lsRow (some ⟨G, 0, none⟩) k cL vs) (gsRow _ m r :: (ex0 ++ ex)) 1))
          simp only [gsRow] at hgv
          subst hgv
          clear hcg0 hcg1
          go_wp2
          go_loopw [7, 8] (fun g i wr => ∃ (i' : Nat) (r : Nat → Ro) (ex : List Ro), i' ≤ 64 ∧ i = .int .i64 i' ∧ g = (r m).v ∧ Hid (Pat k vs ns r m i') ∧ Hid (Owns wr B (rowsF k r ++ lsRow (some ⟨G, 0, none⟩) k cL vs :: gsRow (.slice Ag m cg) m r :: (ex0 ++ ex))) ∧ Hid (∀ j, j < k → OldOk (rowsF k r ++ lsRow (some ⟨G, 0, none⟩) k cL vs :: gsRow (.slice Ag m cg) m r :: (ex0 ++ ex)) (vs j) (mkU j (ns j))) ∧ Below B w wr) (fun _ i _ => 64 - (intOf i).toNat)
          case atStart => exact ⟨0, r, ex, Nat.zero_le _, rfl, HV2.out.symm, HP, HO, HOL, HB2.out⟩
          case round =>
            clear HO HOL HP hcl0 hGl HB2
            obtain ⟨i, r', ex', hi, rfl, rfl, HP, HO, HOL, hb3⟩ := hrel
            have hrm := HP.out.at_ hlt
            have hget := rowsF_get r' (lsRow (some ⟨G, 0, none⟩) k cL vs :: gsRow (.slice Ag m cg) m r' :: (ex0 ++ ex')) hlt
            rw [hrm, ← HNN.out] at hget
            obtain ⟨A5, c5, hv5, _, _⟩ := ownsRow_slice (HO.out.at_ hget)
            have hv6 : (r' m).v = .slice A5 (n + i) c5 := hv5
            rw [hv6] at hget ⊢
            have HV6 := hide_ hv6
            have HGET := hide_ hget
            obtain ⟨hcl0, hGl⟩ := HCL.out wr r' _ _ _ HO.out
            have HB3 := hide_ hb3
            have HSZ := hide_ hb3.size
            clear hrm hv5 hv6 hget hb3
            by_cases hlt3 : i < 64
            · obtain ⟨mk, hmk⟩ : ∃ mk, mk = mkA ((m : Int) + 1) ((n : Int) + (i : Int)) := ⟨_, rfl⟩
              have HMS := hide_ (show mkU m (n + i + 1) = mkU m (n + i) ++ [.int .u8 99, .int .i64 mk, .string ⟨#[]⟩] by rw [mkU_succ, hmk]; rw [show ((n : Int) + (i : Int)) = ((n + i : Nat) : Int) by omega])
              have HMK := hide_ (fun W => markTokens_any ((m : Int) + 1) ((n : Int) + (i : Int)) W)
              rw [← hmk] at HMK
              have HL3 := hide_ hlt3
              have HNM := hide_ hnm
              clear hmk
              go_wp2_with fail
              refine (HMK.out _).mono ?_
              rintro e w6 ⟨rfl, hb6⟩
              have HO6 := hide_ (HO.out.below hb6)
              have HB6 := hide_ (HB3.out.trans (hb6.mono (Nat.le_trans HBS.out HSZ.out)))
              clear hb6 HO
              go_wp2_with (at_builtin; refine wpList_append_splitK _ rfl (.tmp 51) (.tmp 62) 24 rfl B _ m 36 3 (.slice A5 (n + i) c5) (n + i) (mkU m (n + i)) HGET.out (HO6.out.alloc _) (by have := HB6.out.size; have := HBS.out; rw [World.size_alloc]; omega) i0 _ 32 (by decide) Tryd.underlying24 hi0 hz0 hz1 hz2 rfl rfl _ _ 1 1 [.int .u8 99, .int .i64 mk, .string ⟨#[]⟩] rfl (reads_new w6 36 3 1 [.int .u8 99, .int .i64 mk, .string ⟨#[]⟩] rfl) (by simp [Value.oneCell']) (by omega) (by have := HNM.out; have := HL3.out; simp only [maxLen]; omega) (by have := HNM.out; have := HL3.out; omega) ?_)
              intro v7 w7 hsp hb7 hsz7
              have HB8 := hide_ (show Below B w w7 from (HB6.out.alloc (by have := HB6.out.size; have := HBS.out; omega) _).trans hb7)
              have HSP := hide_ hsp
              clear hsp hb7 HO6
              go_wp2
              go_roundw
              case rel =>
                have hnn := HNN.out
                have hms := HMS.out
                have hgt := HGET.out
                subst hnn
                rcases HSP.out with ⟨hob, hO1⟩ | hO1
                · rw [← hms, rowsF_set _ _ _ hlt] at hO1
                  refine ⟨i + 1, updR r' m ⟨36, 3, v7, ns m + i + 1, mkU m (ns m + i + 1)⟩, ex', by omega, by go_num, by simp [updR], hide_ (HP.out.step v7), hide_ ?_, hide_ (fun j hj => ?_), HB8.out⟩
                  · rw [gsRow_upd]; exact hO1
                  · have := (HOL.out j hj).set hgt ⟨36, 3, v7, ns m + i + 1, mkU m (ns m + i + 1)⟩ (.inr ⟨rfl, rfl, hob, by rw [hms]; exact List.prefix_append _ _⟩)
                    rw [rowsF_set _ _ _ hlt] at this
                    rw [gsRow_upd]; exact this
                · rw [← hms, rowsF_set _ _ _ hlt, List.append_assoc, List.cons_append, List.cons_append, List.append_assoc] at hO1
                  refine ⟨i + 1, updR r' m ⟨36, 3, v7, ns m + i + 1, mkU m (ns m + i + 1)⟩, ex' ++ [⟨36, 3, .slice A5 (ns m + i) c5, ns m + i, mkU m (ns m + i)⟩], by omega, by go_num, by simp [updR], hide_ (HP.out.step v7), hide_ ?_, hide_ (fun j hj => ?_), HB8.out⟩
                  · rw [gsRow_upd]; exact hO1
                  · have := (HOL.out j hj).moved hgt ⟨36, 3, v7, ns m + i + 1, mkU m (ns m + i + 1)⟩
                    rw [rowsF_set _ _ _ hlt, List.append_assoc, List.cons_append, List.cons_append, List.append_assoc] at this
                    rw [gsRow_upd]; exact this
              case measure => simp [intOf]; omega
            · obtain rfl : i = 64 := by omega
              have HGS := hide_ (show (rowsF k r' ++ lsRow (some ⟨G, 0, none⟩) k cL vs :: gsRow (.slice Ag m cg) m r' :: (ex0 ++ ex'))[k + 1]? = some (gsRow (.slice Ag m cg) m r') from rowsF_ex r' (lsRow (some ⟨G, 0, none⟩) k cL vs) (gsRow (.slice Ag m cg) m r' :: (ex0 ++ ex')) 1)
              go_wp2_with (at_builtin; refine wpList_append_owns _ rfl (.tmp 64) (.tmp 66) 31 rfl B _ (k + 1) 24 1 (.slice Ag m cg) m ((List.range m).map fun j => (r' j).v) HGS.out (HO.out.alloc _) (by have := HSZ.out; have := HBS.out; rw [World.size_alloc]; omega) i1 _ 24 Tryd.underlying31 hi1 hy0 hy1 hy2 rfl (by omega) rfl _ _ 1 1 [.slice A5 (n + 64) c5] rfl (reads_new wr 24 1 1 [.slice A5 (n + 64) c5] rfl) (by simp [Value.oneCell']) (by simp only [maxLen]; omega) (by omega) ?_)
              intro v7 w7 hO7 hb7 hsz7
              have HB8 := hide_ (show Below B w w7 from (HB3.out.alloc (by have := HSZ.out; have := HBS.out; omega) _).trans hb7)
              have HO7 := hide_ hO7
              clear hO7 hb7 HO
              go_wp2
              go_roundw
              case rel =>
                have hO8 := HO7.out
                rw [rowsF_set2, ← HV6.out, gsRow_next] at hO8
                refine ⟨m + 1, r', ex', by omega, by go_num, hide_ HP.out.next, hide_ hO8, hide_ (fun j hj => ?_), HB8.out⟩
                have := (HOL.out j hj).set HGS.out (gsRow v7 (m + 1) r') (.inl (show (24 : TypeId) ≠ 36 by decide))
                rw [rowsF_set2] at this
                exact this
              case measure => simp [intOf]; omega
        · obtain rfl : m = k := by omega
          obtain ⟨W0, hW0⟩ : ∃ W0, W0 = wr := ⟨_, rfl⟩
          rw [← hW0]
          rw [← hW0] at HO HB2
          clear hW0 hb2
          go_wp2
          go_loopw [9] (fun i W => ∃ q : Nat, q ≤ m ∧ i = .int .i64 q ∧ Below W0.heap.size W0 W) (fun i _ => m - (intOf i).toNat)
          case atStart => exact ⟨0, Nat.zero_le _, rfl, Below.refl _ _⟩
          case round =>
            obtain ⟨q, hq, rfl, hbq⟩ := hrel
            have HOQ := hide_ (HO.out.below hbq)
            have HBQ := hide_ hbq
            clear hbq
            by_cases hq2 : q < m
            · obtain ⟨G, rfl⟩ := ls_some HO.out (show 0 < m by omega)
              have hnq := HN.out q hq2
              obtain ⟨A, c, hv, hA⟩ := HVS.out q hq2
              obtain ⟨n, hnn⟩ : ∃ n, n = ns q := ⟨_, rfl⟩
              rw [← hnn] at hnq hv hA
              have HNN := hide_ hnn
              have HV := hide_ hv
              have HA := hide_ hA
              clear hnn hv hA
              obtain ⟨g', cg, g5, c5, rfl, hc1, hc2, s1, s2, s3, _, _⟩ := apart_last HOQ.out HP.out hq2 (HOL.out q hq2) HV.out HNN.out HA.out
              have hw1 : IntKind.i64.wrap ((q : Int) + 1) = (q : Int) + 1 := by rw [IntKind.wrap_i64]; omega
              go_wp2
              go_loopw [10] (fun i W => ∃ j : Nat, j ≤ n + 64 ∧ i = .int .i64 j ∧ Below W0.heap.size W0 W) (fun i _ => n + 64 - (intOf i).toNat)
              case atStart => exact ⟨0, Nat.zero_le _, rfl, HBQ.out⟩
              case round =>
                clear hc1 hc2 s1 s2 s3
                obtain ⟨j, hj, rfl, hbj⟩ := hrel
                obtain ⟨g9, cg9, g5', c5', e9, hc1, hc2, s1, s2, s3, hc3, hc4⟩ := apart_last (HO.out.below hbj) HP.out hq2 (HOL.out q hq2) HV.out HNN.out HA.out
                injection e9 with e9a _ e9b
                injection e9a with e9a
                injection e9a with e9a
                subst e9a e9b
                have HBJ := hide_ hbj
                have HSJ := hide_ hbj.size
                clear hbj
                by_cases hj2 : j < n + 64
                · have hl4 : (j : Int) < (n : Int) + 64 := by omega
                  obtain ⟨hx0, hx1, hx2⟩ := hc3 j hj2
                  have HMK := hide_ (fun W => markTokens_any ((q : Int) + 1) (j : Int) W)
                  obtain ⟨mk, hmk⟩ : ∃ mk, mk = mkA ((q : Int) + 1) (j : Int) := ⟨_, rfl⟩
                  rw [← hmk] at HMK hx1
                  have hcmp := fun w => token_eq w 99 mk ⟨#[]⟩
                  have HCMP := hide_ hcmp
                  have HX := hide_ (And.intro hx0 (And.intro hx1 hx2))
                  clear hx0 hx1 hx2 hcmp hc3
                  by_cases hj3 : j < n
                  · have hl5 : (j : Int) < (n : Int) := by omega
                    obtain ⟨g, e8, hgl, hz0', hz1', hz2'⟩ := hc4 j hj3
                    rw [← hmk] at hz1'
                    subst e8
                    have HY := hide_ (And.intro hz0' (And.intro hz1' hz2'))
                    clear hz0' hz1' hz2' hc4 hmk
                    go_wp2_with fail
                    refine (HMK.out _).mono ?_
                    rintro e w6 ⟨rfl, hb6⟩
                    have k1 := (hb6.cell (p := ⟨g', q, none⟩) s1).trans hc1
                    have k2 := (hb6.cell (p := ⟨G, q, none⟩) s2).trans hc2
                    have k3 := (hb6.cell (p := ⟨g5', j * 3, none⟩) s3).trans HX.out.1
                    have k4 := (hb6.cell (p := ⟨g5', j * 3 + 1, none⟩) s3).trans HX.out.2.1
                    have k5 := (hb6.cell (p := ⟨g5', j * 3 + 2, none⟩) s3).trans HX.out.2.2
                    have k6 := (hb6.cell (p := ⟨g, j * 3, none⟩) hgl).trans HY.out.1
                    have k7 := (hb6.cell (p := ⟨g, j * 3 + 1, none⟩) hgl).trans HY.out.2.1
                    have k8 := (hb6.cell (p := ⟨g, j * 3 + 2, none⟩) hgl).trans HY.out.2.2
                    have l1 : g' < w6.heap.size := Nat.lt_of_lt_of_le s1 hb6.size
                    have l2 : G < w6.heap.size := Nat.lt_of_lt_of_le s2 hb6.size
                    have l3 : g5' < w6.heap.size := Nat.lt_of_lt_of_le s3 hb6.size
                    have l4 : g < w6.heap.size := Nat.lt_of_lt_of_le hgl hb6.size
                    have HB6 := hide_ (HBJ.out.trans (hb6.mono HSJ.out))
                    clear hc1 hc2 s1 s2 s3 hgl hb6
                    go_upto_region 25 with (fail)
                    have hcmp := HCMP.out
                    go_big_quiet (fail)
                    clear k1 k2 k3 k4 k5 k6 k7 k8 hcmp
                    go_wp2
                    go_roundw
                    case rel => exact ⟨j + 1, hj2, by go_num, below_draws2 (HB6.out.alloc HB6.out.size _) _⟩
                    case measure => simp [intOf]; omega
                  · have hl5 : ¬ (j : Int) < (n : Int) := by omega
                    clear hc4 hmk
                    go_wp2_with fail
                    refine (HMK.out _).mono ?_
                    rintro e w6 ⟨rfl, hb6⟩
                    have k1 := (hb6.cell (p := ⟨g', q, none⟩) s1).trans hc1
                    have k2 := (hb6.cell (p := ⟨G, q, none⟩) s2).trans hc2
                    have k3 := (hb6.cell (p := ⟨g5', j * 3, none⟩) s3).trans HX.out.1
                    have k4 := (hb6.cell (p := ⟨g5', j * 3 + 1, none⟩) s3).trans HX.out.2.1
                    have k5 := (hb6.cell (p := ⟨g5', j * 3 + 2, none⟩) s3).trans HX.out.2.2
                    have l1 : g' < w6.heap.size := Nat.lt_of_lt_of_le s1 hb6.size
                    have l2 : G < w6.heap.size := Nat.lt_of_lt_of_le s2 hb6.size
                    have l3 : g5' < w6.heap.size := Nat.lt_of_lt_of_le s3 hb6.size
                    have HB6 := hide_ (HBJ.out.trans (hb6.mono HSJ.out))
                    clear hc1 hc2 s1 s2 s3 hb6
                    go_upto_region 25 with (fail)
                    have hcmp := HCMP.out
                    go_big_quiet (fail)
                    clear k1 k2 k3 k4 k5 hcmp
                    go_wp2
                    go_roundw
                    case rel => exact ⟨j + 1, hj2, by go_num, below_draws2 (HB6.out.alloc HB6.out.size _) _⟩
                    case measure => simp [intOf]; omega
                · obtain rfl : j = n + 64 := by omega
                  clear hc3 hc4
                  go_wp2
                  go_roundw
                  case rel => exact ⟨q + 1, by omega, by go_num, HBJ.out⟩
                  case measure => simp [intOf]; omega
            · obtain rfl : q = m := by omega
              have HFIN := hide_ (HOQ.out.sub ((List.sublist_append_left ex0 ex).trans ((List.sublist_cons_self _ _).trans ((List.sublist_cons_self _ _).trans (List.sublist_append_right _ _)))))
              have HBF := hide_ (HB2.out.trans (HBQ.out.mono (Nat.le_trans HBS.out HB2.out.size)))
              go_wp2
              go_ret
              exact ⟨rfl, HFIN.out, HBF.out⟩
end Go.Proofs.YtmbofpeedjlfhaaDoor
/-
  The plain law of Glue; the walk of text.Glue.
-/
namespace Go.Proofs.YtmbofpeedjlfhaaDoor
open Go.RowKit Go.PlainAid Go.BigFrame
set_option linter.unusedVariables false
set_option maxRecDepth 100000

def tokAt (tk : List TokV) (k : Nat) : TokV := tk[k]?.getD (0, 0, ⟨#[]⟩)
/-- is the token's text cut into just this token? -/
def goodB (sg : List ByteArray) (t : TokV) : Bool := match (toksN t.2.2 sg).1 with
  | some [x] => decide (x.1 = t.1) && ((t.2.2.extract x.2.1 x.2.2).data.toList == t.2.2.data.toList)
  | _ => false
def sepB (tk : List TokV) (k : Nat) : Bool := decide (0 < k) && decide ((tokAt tk k).1 ≠ 6) && decide ((tokAt tk (k - 1)).1 ≠ 6)
def glueB (tk : List TokV) (k : Nat) : List UInt8 := (if sepB tk k = true then [32] else []) ++ (tokAt tk k).2.2.data.toList
def glueL (tk : List TokV) : Nat → List UInt8
  | 0 => []
  | k + 1 => glueL tk k ++ glueB tk k
def goodTo (sg : List ByteArray) (tk : List TokV) (k : Nat) : Prop := ∀ j, j < k → goodB sg (tokAt tk j) = true
def glueN (sg : List ByteArray) (tk : List TokV) : ByteArray × Int :=
  if signsOk sg = false then (⟨#[]⟩, 14) else if (List.range tk.length).all (fun k => goodB sg (tokAt tk k)) = false then (⟨#[]⟩, 17)
  else if 524288 < (glueL tk tk.length).length then (⟨#[]⟩, 15) else (⟨(glueL tk tk.length).toArray⟩, 0)
theorem glueN_signs (sg : List ByteArray) (tk : List TokV) (h : signsOk sg = false) : glueN sg tk = (⟨#[]⟩, 14) := by unfold glueN; rw [if_pos h]
theorem glueN_bad (sg : List ByteArray) (tk : List TokV) (h : signsOk sg = true) (k : Nat) (hk : k < tk.length) (hb : goodB sg (tokAt tk k) = false) : glueN sg tk = (⟨#[]⟩, 17) := by
  unfold glueN
  rw [if_neg (by rw [h]; decide), if_pos]
  rw [Bool.eq_false_iff]
  intro ha
  have := List.all_eq_true.1 ha k (List.mem_range.2 hk)
  rw [hb] at this
  cases this
theorem glueN_good (sg : List ByteArray) (tk : List TokV) (h : signsOk sg = true) (hg : goodTo sg tk tk.length) : glueN sg tk = if 524288 < (glueL tk tk.length).length then (⟨#[]⟩, 15) else (⟨(glueL tk tk.length).toArray⟩, 0) := by
  unfold glueN
  rw [if_neg (by rw [h]; decide), if_neg]
  rw [Bool.not_eq_false]
  exact List.all_eq_true.2 fun k hk => hg k (List.mem_range.1 hk)
theorem goodTo_succ {sg : List ByteArray} {tk : List TokV} {k : Nat} (h : goodTo sg tk k) (hk : goodB sg (tokAt tk k) = true) : goodTo sg tk (k + 1) := fun j hj => by
  rcases Nat.lt_or_ge j k with h1 | h1
  · exact h j h1
  · obtain rfl : j = k := by omega
    exact hk
/-- what a text's cutting says of its token -/
theorem good_or (sg : List ByteArray) (t : TokV) :
    (goodB sg t = true ∧ ∃ x, toksN t.2.2 sg = (some [x], 0, 0) ∧ x.1 = t.1 ∧ t.2.2.extract x.2.1 x.2.2 = t.2.2 ∧ t.2.2.size ≤ 524288) ∨
    (goodB sg t = false ∧ ((∃ p er, toksN t.2.2 sg = (none, p, er) ∧ er ≠ 0) ∨ (∃ l, toksN t.2.2 sg = (some l, 0, 0) ∧ l.length ≠ 1) ∨ (∃ x, toksN t.2.2 sg = (some [x], 0, 0) ∧ x.1 ≠ t.1) ∨ (∃ x, toksN t.2.2 sg = (some [x], 0, 0) ∧ x.1 = t.1 ∧ t.2.2.extract x.2.1 x.2.2 ≠ t.2.2))) := by
  unfold goodB
  rcases toksN_or t.2.2 sg with ⟨l, hl, _, hs⟩ | ⟨p, er, hl, her, _⟩
  · rw [hl]
    match l with
    | [] => exact .inr ⟨rfl, .inr (.inl ⟨[], rfl, by simp⟩)⟩
    | [x] =>
      simp only
      by_cases h1 : x.1 = t.1
      · by_cases h2 : t.2.2.extract x.2.1 x.2.2 = t.2.2
        · exact .inl ⟨by rw [h2, decide_eq_true h1]; simp, x, rfl, h1, h2, hs⟩
        · refine .inr ⟨?_, .inr (.inr (.inr ⟨x, rfl, h1, h2⟩))⟩
          have : ((t.2.2.extract x.2.1 x.2.2).data.toList == t.2.2.data.toList) = false := by
            rw [beq_eq_false_iff_ne]
            exact fun h => h2 (ByteArray.ext (Array.toList_inj.1 h))
          rw [this, Bool.and_false]
      · exact .inr ⟨by rw [decide_eq_false h1]; rfl, .inr (.inr (.inl ⟨x, rfl, h1⟩))⟩
    | x :: y :: r => exact .inr ⟨rfl, .inr (.inl ⟨_, rfl, by simp⟩)⟩
  · rw [hl]
    exact .inr ⟨rfl, .inl ⟨p, er, rfl, her⟩⟩
theorem glueL_mono (tk : List TokV) : ∀ (d k : Nat), (glueL tk k).length ≤ (glueL tk (k + d)).length := by
  intro d
  induction d with
  | zero => intro k; exact Nat.le_refl _
  | succ d ih =>
    intro k
    rw [← Nat.add_assoc, glueL, List.length_append]
    have := ih k
    omega
theorem glueB_len (tk : List TokV) (k m : Nat) (h : (tokAt tk k).2.2.size ≤ m) : (glueB tk k).length ≤ m + 1 := by
  unfold glueB
  rw [List.length_append]
  have : (tokAt tk k).2.2.data.toList.length = (tokAt tk k).2.2.size := rfl
  rw [this]
  split <;> simp <;> omega
theorem builder_below {T e : TypeId} {B b : Nat} {bs : List Value} {w w' : World} (h : Lib.IsBuilderF T e B b bs w) (hb : Below w.heap.size w w') : Lib.IsBuilderF T e B b bs w' := by
  have key : ∀ p, Lib.BuilderAtF T e B b p bs w → Lib.BuilderAtF T e B b p bs w' := by
    rintro p ⟨hB, v, hbk, hown, hne⟩
    have k1 : ∀ k o, w.heap[k]? = some o → w'.heap[k]? = some o := fun k o hk => (hb.block k (Array.getElem?_eq_some_iff.1 hk).1).trans hk
    refine ⟨hB, v, k1 _ _ hbk, ⟨hown.1, ?_⟩, hne⟩
    rcases hown.2 with h0 | ⟨g, cap, cur, fz, h1, h2, h3, h4⟩
    · exact .inl h0
    · exact .inr ⟨g, cap, cur, fz, h1, h2, k1 _ _ h3, h4⟩
  rcases h with h | h
  · exact .inl (key _ h)
  · exact .inr (key _ h)
theorem others_blk {e : TypeId} {b g : Nat} {W W' : World} {t : TypeId} {cs : Array Value} (h : Lib.OthersKept e (some b) W W') (hB : Blk W g t cs) (hg : g ≠ b) (ht : t ≠ e) : Blk W' g t cs :=
  h g _ hB (fun e => hg (by injection e)) (fun c fz he => by injection he with _ h2; exact ht h2)
/-- a token's cells in memory -/
theorem tok_cells {w : World} {B n : Nat} {A : Option Addr} {tk : List TokV} (hr : Reads w B 3 A n (tCells tk)) (k : Nat) (hk : k < n) :
    ∃ ad, A = some ad ∧ (ad.add (k * 3)).block < B ∧ w.cell? (ad.add (k * 3)) = some (.int .u8 (tokAt tk k).1) ∧ w.cell? ⟨(ad.add (k * 3)).block, (ad.add (k * 3)).off + 1, none⟩ = some (.int .i64 (tokAt tk k).2.1) ∧ w.cell? ⟨(ad.add (k * 3)).block, (ad.add (k * 3)).off + 2, none⟩ = some (.string (tokAt tk k).2.2) := by
  obtain ⟨ad, rfl, hb, hc⟩ := hr.2 (by omega)
  have hl : tk.length = n := by have := hr.1; rw [tCells_len] at this; omega
  obtain ⟨t0, t1, t2⟩ := tCells_get tk k (tokAt tk k) (by unfold tokAt; rw [List.getElem?_eq_getElem (by omega)]; rfl)
  have key : ∀ i, 0 < i → ad.add (k * 3 + i) = ⟨(ad.add (k * 3)).block, (ad.add (k * 3)).off + i, none⟩ := fun i hi => by
    rw [← add_of_add]
    generalize ad.add (k * 3) = p
    unfold Addr.add
    rw [if_neg (by omega)]
  refine ⟨ad, rfl, by rw [block_of_add]; exact hb, hc _ _ t0, ?_, ?_⟩
  · rw [← key 1 (by omega)]; exact hc _ _ t1
  · rw [← key 2 (by omega)]; exact hc _ _ t2
end Go.Proofs.YtmbofpeedjlfhaaDoor
/-
  What an argument of bounded bulk is: its reading, level by level; a list of tokens that came in.
-/
namespace Go.Proofs.YtmbofpeedjlfhaaDoor
open Go.RowKit
set_option maxRecDepth 100000
set_option linter.unusedVariables false

/-- cells that read as some datum of a type, of bulk at most b -/
def SeenB {H : Type} (enc : TypeId × Value → H) (P : Program) (w : World) (held : Bool) (t : TypeId) (cs : List Value) (b : Nat) : Prop :=
  ∃ n d p, DataW.trod enc P w 0 (fun _ => true) held n t cs = some (d, p) ∧ Rows.uptoBulk d ≤ b
section
variable {H : Type} {enc : TypeId × Value → H} {P : Program} {w : World} {held : Bool}
theorem bulk_one (d : DataW H) : 1 ≤ Rows.uptoBulk d := by
  unfold Rows.uptoBulk
  split <;> omega
theorem bulk_all {l : List (DataW H)} : l.length ≤ Rows.uptoBulkAll l := by
  induction l with
  | nil => simp
  | cons a r ih =>
    have := bulk_one a
    simp only [Rows.uptoBulkAll, List.length_cons]
    omega
theorem bulk_le {d : DataW H} {l : List (DataW H)} (h : d ∈ l) : Rows.uptoBulk d ≤ Rows.uptoBulkAll l := by
  induction l with
  | nil => cases h
  | cons x r ih =>
    simp only [Rows.uptoBulkAll]
    cases List.mem_cons.1 h with
    | inl e => subst e; omega
    | inr e => have := ih e; omega
theorem seenB_int {t : TypeId} {k : IntKind} {cs : List Value} {b : Nat} (ht : P.underlying t = some (.int k)) (h : SeenB enc P w held t cs b) : ∃ a, cs = [.int k a] := by
  obtain ⟨n, d, p, h, _⟩ := h
  cases n with
  | zero => simp [DataW.trod] at h
  | succ n =>
    unfold DataW.trod at h
    rw [ht] at h
    split at h <;> simp_all
theorem seenB_string {t : TypeId} {cs : List Value} {b : Nat} (ht : P.underlying t = some .string) (h : SeenB enc P w held t cs b) : ∃ s : ByteArray, cs = [.string s] ∧ s.size ≤ b := by
  obtain ⟨n, d, p, h, hw⟩ := h
  cases n with
  | zero => simp [DataW.trod] at h
  | succ n =>
    unfold DataW.trod at h
    rw [ht] at h
    split at h <;> simp_all
    rename_i s
    obtain ⟨_, rfl, _⟩ := h
    simp only [Rows.uptoBulk, Array.length_toList] at hw
    have h9 : s.size + 1 ≤ b := hw
    omega
theorem seenB_struct {t : TypeId} {fs : Array Field} {cs : List Value} {b : Nat} (ht : P.underlying t = some (.struct fs)) (h : SeenB enc P w held t cs b) :
    cs.length = P.cellsOf t ∧ ∀ (i : Nat) (f : Field), fs[i]? = some f → SeenB enc P w held f.type ((cs.drop f.offset).take (P.cellsOf f.type)) b := by
  obtain ⟨n, d, p, h, hw⟩ := h
  obtain ⟨xs, m, rfl, hx, hl, hlen, hf⟩ := DataW.trod_struct ht h
  refine ⟨hl, fun i f hi => ?_⟩
  have hg := hf i f hi
  have hil : i < xs.length := by rw [hlen]; exact (Array.getElem?_eq_some_iff.1 hi).1
  rw [List.getElem?_eq_getElem hil] at hg
  injection hx with hd _
  subst hd
  refine ⟨m, xs[i].1, xs[i].2, hg, ?_⟩
  simp only [Rows.uptoBulk] at hw
  have := bulk_le (List.mem_map.2 ⟨_, List.getElem_mem hil, rfl⟩ : xs[i].1 ∈ xs.map (·.1))
  omega
theorem seenB_slice {t e : TypeId} {cs : List Value} {b : Nat} (ht : P.underlying t = some (.slice e)) (he : 0 < P.cellsOf e) (h : SeenB enc P w held t cs b) :
    ∃ A n c, cs = [.slice A n c] ∧ n ≤ c ∧ c ≤ maxLen ∧ n ≤ b ∧
      (0 < n → ∃ ad, A = some ad ∧ ad.block < w.heap.size ∧ ∀ i, i < n → ∃ vs, vs.length = P.cellsOf e ∧ (∀ j, j < P.cellsOf e → w.cell? ((ad.add (i * P.cellsOf e)).add j) = vs[j]?) ∧ SeenB enc P w held e vs b) := by
  obtain ⟨n, d, p, h, hw⟩ := h
  rcases DataW.trod_slice ht h with ⟨rfl, _⟩ | ⟨a, len, cap, elems, rest, m, _, rfl, hx, _, hl, hc, hlen, hel, hre, _⟩
  · exact ⟨none, 0, 0, rfl, Nat.le_refl _, Nat.zero_le _, Nat.zero_le _, fun h => absurd h (by omega)⟩
  · injection hx with hd _
    subst hd
    simp only [Rows.uptoBulk] at hw
    have hall : ∀ i, i < len → ∃ vs, vs.length = P.cellsOf e ∧ (∀ j, j < P.cellsOf e → w.cell? ((a.add (i * P.cellsOf e)).add j) = vs[j]?) ∧ SeenB enc P w held e vs b ∧ a.block < w.heap.size := by
      intro i hi
      have hE := hel i hi
      have hil : i < elems.length := by omega
      rw [List.getElem?_eq_getElem hil] at hE
      simp only [Option.bind_eq_some_iff] at hE
      obtain ⟨vs, hvs, htr⟩ := hE
      have hcs := World.cells?_some hvs
      have hb := World.cells?_block hvs he
      rw [block_of_add] at hb
      refine ⟨vs, hcs.2.1, hcs.2.2, ⟨m, elems[i].1, elems[i].2, htr, ?_⟩, hb⟩
      have := bulk_le (List.mem_map.2 ⟨_, List.getElem_mem hil, rfl⟩ : elems[i].1 ∈ elems.map (·.1))
      omega
    refine ⟨some a, len, cap, rfl, hl, hc, ?_, fun h0 => ⟨a, rfl, ?_, fun i hi => ?_⟩⟩
    · have h9 := bulk_all (l := elems.map (·.1))
      rw [List.length_map, hlen] at h9
      omega
    · obtain ⟨_, _, _, _, hb⟩ := hall 0 h0
      exact hb
    · obtain ⟨vs, h1, h2, h3, _⟩ := hall i hi
      exact ⟨vs, h1, h2, h3⟩
end
theorem three_of_len {α : Type} {l : List α} (h : l.length = 3) : ∃ x y z, l = [x, y, z] := by
  match l, h with
  | [x, y, z], _ => exact ⟨x, y, z, rfl⟩
theorem seenB_tok {H : Type} {enc : TypeId × Value → H} {w : World} {held : Bool} {vs : List Value} {b : Nat} (h : SeenB enc Tryd.prog w held 36 vs b) : ∃ t : TokV, vs = [.int .u8 t.1, .int .i64 t.2.1, .string t.2.2] ∧ t.2.2.size ≤ b := by
  obtain ⟨hl, hf⟩ := seenB_struct Tryd.underlying36 h
  rw [show Tryd.prog.cellsOf 36 = 3 by kernel_rfl] at hl
  obtain ⟨x, y, z, rfl⟩ := three_of_len hl
  have h0 := hf 0 _ rfl
  have h1 := hf 1 _ rfl
  have h2 := hf 2 _ rfl
  obtain ⟨k, hk⟩ := seenB_int (k := .u8) (by kernel_rfl) h0
  obtain ⟨a, ha⟩ := seenB_int (k := .i64) (by kernel_rfl) h1
  obtain ⟨s, hs, hb⟩ := seenB_string (by kernel_rfl) h2
  have e0 : [x] = [Value.int .u8 k] := hk
  have e1 : [y] = [Value.int .i64 a] := ha
  have e2 : [z] = [Value.string s] := hs
  injection e0 with e0
  injection e1 with e1
  injection e2 with e2
  exact ⟨(k, a, s), by rw [e0, e1, e2], hb⟩
theorem toks_arg {H : Type} {enc : TypeId × Value → H} {base b : Nat} {v : Value} {w : World} (hv : Value.okWide Tryd.prog w .any base 24 v) (h : SeenB enc Tryd.prog w true 24 v.cells.toList b) :
    ∃ (A : Option Addr) (n c : Nat) (tk : List TokV), v = .slice A n c ∧ n ≤ c ∧ n ≤ b ∧ Reads w w.heap.size 3 A n (tCells tk) ∧ ∀ k, (tokAt tk k).2.2.size ≤ b := by
  obtain ⟨a, len, cap, rfl⟩ := WideShapes.okWide_slice Tryd.underlying24 hv
  obtain ⟨A, n, c, hcs, h1, h2, h3, h4⟩ := seenB_slice Tryd.underlying24 (by rw [show Tryd.prog.cellsOf 36 = 3 by kernel_rfl]; decide) h
  simp [Value.cells] at hcs
  obtain ⟨rfl, rfl, rfl⟩ := hcs
  rcases Nat.eq_zero_or_pos len with rfl | hn
  · exact ⟨a, 0, cap, [], rfl, h1, h3, ⟨by simp [tCells], fun h => absurd h (by omega)⟩, fun k => by unfold tokAt; exact Nat.zero_le _⟩
  · obtain ⟨ad, rfl, hb, hi⟩ := h4 hn
    have e3 : Tryd.prog.cellsOf 36 = 3 := by kernel_rfl
    have hv2 : ∀ i, i < len → ∃ t : TokV, (∀ j, j < 3 → w.cell? (ad.add (i * 3 + j)) = ([.int .u8 t.1, .int .i64 t.2.1, .string t.2.2] : List Value)[j]?) ∧ t.2.2.size ≤ b := by
      intro i hlt
      obtain ⟨vs, hl, hcell, hs⟩ := hi i hlt
      obtain ⟨t, rfl, hz⟩ := seenB_tok hs
      refine ⟨t, fun j hj => ?_, hz⟩
      have := hcell j (by rw [e3]; exact hj)
      rw [e3, add_of_add] at this
      exact this
    obtain ⟨f, hf⟩ := skolem_lt hv2
    have hget : ∀ i, i < len → ((List.range len).map f)[i]? = some (f i) := fun i hi => by rw [List.getElem?_map, List.getElem?_range hi]; rfl
    refine ⟨some ad, len, cap, (List.range len).map f, rfl, h1, h3, ⟨by rw [tCells_len]; simp, fun _ => ⟨ad, rfl, hb, fun j u hu => ?_⟩⟩, fun k => ?_⟩
    · have hj : j < len * 3 := by
        have := (List.getElem?_eq_some_iff.1 hu).1
        rw [tCells_len] at this
        simpa using this
      obtain ⟨i, r, hr, rfl⟩ : ∃ i r, r < 3 ∧ j = i * 3 + r := ⟨j / 3, j % 3, Nat.mod_lt _ (by decide), by omega⟩
      have hil : i < len := by omega
      obtain ⟨t0, t1, t2⟩ := tCells_get _ i _ (hget i hil)
      rw [(hf i hil).1 r hr, ← hu]
      rcases r with _ | _ | _ | r
      · rw [Nat.add_zero, t0]; rfl
      · rw [t1]; rfl
      · rw [t2]; rfl
      · omega
    · unfold tokAt
      rcases Nat.lt_or_ge k len with hk | hk
      · rw [hget k hk]; exact (hf k hk).2
      · rw [List.getElem?_eq_none (by simpa using hk)]
        exact Nat.zero_le _
end Go.Proofs.YtmbofpeedjlfhaaDoor
/-
  The kit's lists of tokens: LentTokens, KeptTokens, OverTokens.
-/
namespace Go.Proofs.YtmbofpeedjlfhaaDoor
open Go.RowKit Go.PlainAid Go.BigFrame
set_option linter.unusedVariables false
set_option linter.unusedSimpArgs false
set_option maxRecDepth 100000

theorem tCells_take (tk : List TokV) (m : Nat) (hm : m < tk.length) : tCells (tk.take (m + 1)) = tCells (tk.take m) ++ [.int .u8 (tokAt tk m).1, .int .i64 (tokAt tk m).2.1, .string (tokAt tk m).2.2] := by
  have h : tk[m]? = some (tokAt tk m) := by unfold tokAt; rw [List.getElem?_eq_getElem hm]; rfl
  rw [List.take_add_one, h, tCells_app]
  rfl
theorem marksT_succ (tk : List TokV) (q : Int) (j : Nat) : tCells (tk ++ marks3 q (j + 1)) = tCells (tk ++ marks3 q j) ++ [.int .u8 99, .int .i64 (mkA q (j : Nat)), .string ⟨#[]⟩] := by
  rw [marks3_succ, ← List.append_assoc, tCells_app]
  rfl
theorem marks3_get (q : Int) (n j : Nat) (h : j < n) : (marks3 q n)[j]? = some (mkTok q (j : Nat)) := by
  unfold marks3
  rw [List.getElem?_map, List.getElem?_range h]
  rfl
set_option maxHeartbeats 4000000 in
theorem LentTokens_any (A : Option Addr) (n c B : Nat) (tk : List TokV) (w : World) (hn : n ≤ 1048576) (hr : Reads w B 3 A n (tCells tk)) (hB : B ≤ w.heap.size) :
    Calls Tryd.prog 16 #[.slice A n c] w fun e w' => ∃ v, e = .returned v ∧ w'.ownsRow w.heap.size 36 3 v (n + 64) (tCells (tk ++ marks3 0 64)) ∧ Below w.heap.size w w' := by
  obtain ⟨i0, hi0, hz0, hz1, hz2⟩ := info_parts token_info
  have hlen : tk.length = n := by have := hr.1; rw [tCells_len] at this; omega
  have HR := hide_ hr
  have HLEN := hide_ hlen
  have HBB := hide_ hB
  clear hr hlen hB
  go_enter Tryd.func16, Tryd.ntmps16
  go_wp2
  go_loopw [3, 4] (fun v i wr => ∃ k : Nat, k ≤ n ∧ i = .int .i64 k ∧ wr.ownsRow w.heap.size 36 3 v k (tCells (tk.take k)) ∧ Below w.heap.size w wr) (fun _ i _ => n - (intOf i).toNat)
  case atStart => exact ⟨0, Nat.zero_le _, rfl, World.ownsRow_nil _ _ _ _, Below.refl _ _⟩
  case round =>
    obtain ⟨k, hk, rfl, hown, hb⟩ := hrel
    obtain ⟨A0, c0, rfl, hc0, hc1⟩ := ownsRow_slice hown
    have HO := hide_ (one_row (r := ⟨36, 3, .slice A0 k c0, k, tCells (tk.take k)⟩) hown)
    have HB := hide_ hb
    by_cases hlt : k < n
    · obtain ⟨ad, rfl, hbk, p0, p1, p2⟩ := tok_cells (HR.out.below (hb.mono HBB.out)) k hlt
      have hbs : (ad.add (k * 3)).block < wr.heap.size := by have := HBB.out; have := hb.size; omega
      have HG := hide_ (tCells_take tk k (by have := HLEN.out; omega))
      obtain ⟨K, hK⟩ : ∃ K, K = (tokAt tk k).1 := ⟨_, rfl⟩
      obtain ⟨a, ha⟩ : ∃ a, a = (tokAt tk k).2.1 := ⟨_, rfl⟩
      obtain ⟨S, hS⟩ : ∃ S, S = (tokAt tk k).2.2 := ⟨_, rfl⟩
      rw [← hK] at p0
      rw [← ha] at p1
      rw [← hS] at p2
      rw [← hK, ← ha, ← hS] at HG
      clear hK ha hS hown hb hc0 hc1
      go_wp2_with (at_builtin; refine wpList_append_owns _ rfl (.tmp 12) (.tmp 17) 24 rfl w.heap.size _ 0 36 3 (.slice A0 k c0) k (tCells (tk.take k)) rfl (HO.out.alloc _) (by have := HB.out.size; simp; omega) i0 _ 32 Tryd.underlying24 hi0 hz0 hz1 hz2 rfl (by omega) rfl _ _ 1 1 [.int .u8 K, .int .i64 a, .string S] rfl (reads_new wr 36 3 1 [.int .u8 K, .int .i64 a, .string S] rfl) (by simp [Value.oneCell']) (by simp only [maxLen]; omega) (by omega) ?_)
      intro v1 w1 hO1 hb1 hsz1
      have HB1 := hide_ ((HB.out.alloc HB.out.size _).trans hb1)
      have HO1 := hide_ (hO1.at_ (i := 0) rfl)
      clear hO1 hb1 hsz1
      go_wp2
      go_roundw
      case rel => exact ⟨k + 1, by omega, by go_num, by rw [HG.out]; exact HO1.out, HB1.out⟩
      case measure => simp [intOf]; omega
    · obtain rfl : k = n := by omega
      have HO2 := hide_ (show wr.ownsRow w.heap.size 36 3 (.slice A0 k c0) (k + 0) (tCells (tk ++ marks3 0 0)) by
        have h9 := hown
        rw [List.take_of_length_le (by have := HLEN.out; omega)] at h9
        rw [show marks3 0 0 = [] from rfl, List.append_nil]
        exact h9)
      clear HO hown hb
      go_wp2
      go_loopw [3, 5] (fun v i wr => ∃ j : Nat, j ≤ 64 ∧ i = .int .i64 j ∧ wr.ownsRow w.heap.size 36 3 v (k + j) (tCells (tk ++ marks3 0 j)) ∧ Below w.heap.size w wr) (fun _ i _ => 64 - (intOf i).toNat)
      case atStart => exact ⟨0, by omega, rfl, HO2.out, HB.out⟩
      case round =>
        clear HO2 HB
        obtain ⟨j, hj, rfl, hown, hb⟩ := hrel
        obtain ⟨A1, c1, rfl, hc2, hc3⟩ := ownsRow_slice hown
        have HOWN := hide_ hown
        have HB := hide_ hb
        have HSZ := hide_ hb.size
        clear hown hb
        by_cases hlt2 : j < 64
        · have HMK := hide_ (fun W => markTokens_any 0 (j : Int) W)
          have HMS := hide_ (marksT_succ tk 0 j)
          obtain ⟨M, hM⟩ : ∃ M, M = mkA 0 (j : Int) := ⟨_, rfl⟩
          rw [← hM] at HMK HMS
          clear hM
          go_wp2_with fail
          refine (HMK.out _).mono ?_
          rintro e w2 ⟨rfl, hb2⟩
          have HO := hide_ ((one_row (r := ⟨36, 3, .slice A1 (k + j) c1, k + j, tCells (tk ++ marks3 0 j)⟩) HOWN.out).below hb2)
          have HB2 := hide_ (HB.out.trans (hb2.mono HSZ.out))
          clear hb2
          go_wp2_with (at_builtin; refine wpList_append_owns _ rfl (.tmp 23) (.tmp 26) 24 rfl w.heap.size _ 0 36 3 (.slice A1 (k + j) c1) (k + j) (tCells (tk ++ marks3 0 j)) rfl (HO.out.alloc _) (by have := HB2.out.size; simp; omega) i0 _ 32 Tryd.underlying24 hi0 hz0 hz1 hz2 rfl (by omega) rfl _ _ 1 1 [.int .u8 99, .int .i64 M, .string ⟨#[]⟩] rfl (reads_new w2 36 3 1 [.int .u8 99, .int .i64 M, .string ⟨#[]⟩] rfl) (by simp [Value.oneCell']) (by simp only [maxLen]; omega) (by omega) ?_)
          intro v1 w3 hO1 hb1 hsz1
          have HB3 := hide_ ((HB2.out.alloc HB2.out.size _).trans hb1)
          have HO1 := hide_ (hO1.at_ (i := 0) rfl)
          clear hO1 hb1 hsz1
          go_wp2
          go_roundw
          case rel => exact ⟨j + 1, by omega, by go_num, by rw [HMS.out]; exact HO1.out, HB3.out⟩
          case measure => simp [intOf]; omega
        · obtain rfl : j = 64 := by omega
          go_wp2
          go_ret
          exact ⟨_, rfl, HOWN.out, HB.out⟩
set_option maxHeartbeats 4000000 in
theorem KeptTokens_any (A A' : Option Addr) (n c c' B : Nat) (tk : List TokV) (w : World) (hn : n ≤ 1048576) (ha : Reads w B 3 A (n + 64) (tCells (tk ++ marks3 0 64))) (hb : Reads w B 3 A' n (tCells tk)) (hB : B ≤ w.heap.size) :
    Calls Tryd.prog 18 #[.slice A (n + 64) c, .slice A' n c'] w fun e w' => e = .returned (.bool true) ∧ Below w.heap.size w w' := by
  have hlen : tk.length = n := by have := hb.1; rw [tCells_len] at this; omega
  have h0 : (((n : Int) + 64) != ((n : Int) + 64)) = false := by simp
  have hat : ∀ k, k < n → tokAt (tk ++ marks3 0 64) k = tokAt tk k := fun k hk => by
    unfold tokAt
    rw [List.getElem?_append_left (by omega)]
  have hmk : ∀ j, j < 64 → tokAt (tk ++ marks3 0 64) (n + j) = mkTok 0 (j : Nat) := fun j hj => by
    unfold tokAt
    rw [List.getElem?_append_right (by omega), show n + j - tk.length = j by omega, marks3_get _ _ _ hj]
    rfl
  have HA := hide_ ha
  have HR := hide_ hb
  have HAT := hide_ hat
  have HMT := hide_ hmk
  have HLEN := hide_ hlen
  have HBB := hide_ hB
  clear ha hb hlen hB hat hmk
  go_enter Tryd.func18, Tryd.ntmps18
  go_wp2
  go_loopw [5] (fun i wr => ∃ k : Nat, k ≤ n ∧ i = .int .i64 k ∧ Drew w wr) (fun i _ => n - (intOf i).toNat)
  case atStart => exact ⟨0, Nat.zero_le _, rfl, Drew.refl w⟩
  case round =>
    obtain ⟨k, hk, rfl, hd⟩ := hrel
    have HD := hide_ hd
    by_cases hlt : k < n
    · obtain ⟨ad, rfl, hbk, q0, q1, q2⟩ := tok_cells HA.out k (by omega)
      obtain ⟨ad', rfl, hbk', r0, r1, r2⟩ := tok_cells HR.out k hlt
      rw [HAT.out k hlt] at q0 q1 q2
      obtain ⟨K, hK⟩ : ∃ K, K = (tokAt tk k).1 := ⟨_, rfl⟩
      obtain ⟨a, ha⟩ : ∃ a, a = (tokAt tk k).2.1 := ⟨_, rfl⟩
      obtain ⟨S, hS⟩ : ∃ S, S = (tokAt tk k).2.2 := ⟨_, rfl⟩
      rw [← hK] at q0 r0
      rw [← ha] at q1 r1
      rw [← hS] at q2 r2
      have x0 := (hd.cell _).trans q0
      have x1 := (hd.cell _).trans q1
      have x2 := (hd.cell _).trans q2
      have y0 := (hd.cell _).trans r0
      have y1 := (hd.cell _).trans r1
      have y2 := (hd.cell _).trans r2
      have hb1 : (ad.add (k * 3)).block < wr.heap.size := by rw [hd.size]; have := HBB.out; omega
      have hb2 : (ad'.add (k * 3)).block < wr.heap.size := by rw [hd.size]; have := HBB.out; omega
      have hq := fun w => token_eq w K a S
      clear hK ha hS q0 q1 q2 r0 r1 r2 hd hbk hbk'
      go_upto_region 6 with (fail)
      go_big_quiet (fail)
      go_wp2
      go_roundw
      case rel => exact ⟨k + 1, by omega, by go_num, HD.out.more _⟩
      case measure => simp [intOf]; omega
    · obtain rfl : k = n := by omega
      clear hd
      go_wp2
      go_loopw [6] (fun i wr => ∃ j : Nat, j ≤ 64 ∧ i = .int .i64 j ∧ Below w.heap.size w wr) (fun i _ => 64 - (intOf i).toNat)
      case atStart => exact ⟨0, by omega, rfl, HD.out.below _⟩
      case round =>
        obtain ⟨j, hj, rfl, hbw⟩ := hrel
        have HBW := hide_ hbw
        by_cases hlt : j < 64
        · obtain ⟨ad, rfl, hbk, q0, q1, q2⟩ := tok_cells HA.out (k + j) (by omega)
          rw [HMT.out j hlt] at q0 q1 q2
          have hbs0 : (ad.add ((k + j) * 3)).block < w.heap.size := by have := HBB.out; omega
          have hbs : (ad.add ((k + j) * 3)).block < wr.heap.size := by have := HBB.out; have := hbw.size; omega
          have hcx := (hbw.cell (p := ad.add ((k + j) * 3)) hbs0).trans q0
          have hcy := (hbw.cell (p := ⟨(ad.add ((k + j) * 3)).block, (ad.add ((k + j) * 3)).off + 1, none⟩) hbs0).trans q1
          have hcz := (hbw.cell (p := ⟨(ad.add ((k + j) * 3)).block, (ad.add ((k + j) * 3)).off + 2, none⟩) hbs0).trans q2
          have HMK := hide_ (fun W => markTokens_any 0 (j : Int) W)
          simp only [mkTok] at hcx hcy hcz
          obtain ⟨M, hM⟩ : ∃ M, M = mkA 0 (j : Int) := ⟨_, rfl⟩
          rw [← hM] at HMK hcy
          have s1 : IntKind.i64.wrap ((k : Int) + (j : Int)) = (k : Int) + (j : Int) := IntWalk.i64_in _ (by omega)
          have s2 : (0 : Int) ≤ (k : Int) + (j : Int) := by omega
          have s3 : ((k : Int) + (j : Int)).toNat = k + j := by omega
          have s4 : (k : Int) + (j : Int) < (k : Int) + 64 := by omega
          have hq := fun w => token_eq w 99 M ⟨#[]⟩
          have HSW := hide_ hbw.size
          clear hM hbw q0 q1 q2 hbs0
          go_upto_region 11 with (fail)
          go_region_held3 (fun W => W.cell? (ad.add ((k + j) * 3)) = some (.int .u8 99) ∧ W.cell? ⟨(ad.add ((k + j) * 3)).block, (ad.add ((k + j) * 3)).off + 1, none⟩ = some (.int .i64 M) ∧ W.cell? ⟨(ad.add ((k + j) * 3)).block, (ad.add ((k + j) * 3)).off + 2, none⟩ = some (.string ⟨#[]⟩))
            (first | exact ⟨hcx, hcy, hcz⟩ | exact ⟨(hb7.cell (p := ad.add ((k + j) * 3)) hbs).trans hcx, (hb7.cell (p := ⟨(ad.add ((k + j) * 3)).block, (ad.add ((k + j) * 3)).off + 1, none⟩) hbs).trans hcy, (hb7.cell (p := ⟨(ad.add ((k + j) * 3)).block, (ad.add ((k + j) * 3)).off + 2, none⟩) hbs).trans hcz⟩ | go_keep)
            ((go_at_call 33; refine (HMK.out _).mono ?_; rintro e w7 ⟨rfl, hb7⟩))
          all_goals
            have HB7 := hide_ (HBW.out.trans ((show Below wr.heap.size wr w7 by first | exact hb7 | exact (Below.refl _ wr).drew.trans hb7).mono HSW.out))
            clear hb7
            go_wp2
            go_roundw
            case rel => exact ⟨j + 1, by omega, by go_num, by first | exact HB7.out | exact HB7.out.drew⟩
            case measure => simp [intOf]; omega
        · obtain rfl : j = 64 := by omega
          clear hbw
          go_wp2
          go_ret
          exact ⟨rfl, HBW.out⟩
theorem tok_store {W : World} {B g n c j : Nat} {X : List TokV} {rs : List Ro} (h : Owns W B (⟨36, 3, .slice (some ⟨g, 0, none⟩) n c, n, tCells X⟩ :: rs)) (hj : j < X.length) (m : TokV) :
    Owns (((W.setCell ⟨g, j * 3, none⟩ (.int .u8 m.1)).setCell ⟨g, j * 3 + 1, none⟩ (.int .i64 m.2.1)).setCell ⟨g, j * 3 + 2, none⟩ (.string m.2.2)) B (⟨36, 3, .slice (some ⟨g, 0, none⟩) n c, n, tCells (X.set j m)⟩ :: rs) := by
  have hl : (tCells X).length = X.length * 3 := tCells_len X
  have h1 := h.store (i := 0) rfl (j := j * 3) (by omega) (.int .u8 m.1)
  have h2 := h1.store (i := 0) rfl (j := j * 3 + 1) (by rw [List.length_set]; omega) (.int .i64 m.2.1)
  have h3 := h2.store (i := 0) rfl (j := j * 3 + 2) (by rw [List.length_set, List.length_set]; omega) (.string m.2.2)
  rw [tCells_set X j m] at h3
  exact h3
set_option maxHeartbeats 4000000 in
theorem OverTokens_any (g n c B : Nat) (xs : List TokV) (rs : List Ro) (w : World) (hn : n ≤ 1048640) (hl : xs.length = n) (hO : Owns w B (⟨36, 3, .slice (some ⟨g, 0, none⟩) n c, n, tCells xs⟩ :: rs)) (hB : B ≤ w.heap.size) :
    Calls Tryd.prog 19 #[.slice (some ⟨g, 0, none⟩) n c] w fun e w' => e = .returned (.tuple #[]) ∧ Owns w' B (⟨36, 3, .slice (some ⟨g, 0, none⟩) n c, n, tCells (marks3 (-1) n)⟩ :: rs) ∧ Below B w w' := by
  have HL := hide_ hl
  have HBS := hide_ hB
  have HO := hide_ hO
  clear hl hB hO
  go_enter Tryd.func19, Tryd.ntmps19
  go_wp2
  go_loopw [2] (fun i wr => ∃ j : Nat, j ≤ n ∧ i = .int .i64 j ∧ Hid (Owns wr B (⟨36, 3, .slice (some ⟨g, 0, none⟩) n c, n, tCells (marks3 (-1) j ++ xs.drop j)⟩ :: rs)) ∧ Below B w wr) (fun i _ => n - (intOf i).toNat)
  case atStart => exact ⟨0, Nat.zero_le _, rfl, HO, Below.refl _ _⟩
  case round =>
    clear HO
    obtain ⟨j, hj, rfl, HO, hb⟩ := hrel
    have HB := hide_ hb
    have HSZ := hide_ hb.size
    clear hb
    by_cases hlt : j < n
    · obtain ⟨X, hX⟩ : ∃ X, X = marks3 (-1) j ++ xs.drop j := ⟨_, rfl⟩
      have hXl : j < X.length := by rw [hX, List.length_append, marks3_len, List.length_drop, HL.out]; omega
      have hOj := HO.out
      rw [← hX] at hOj
      have hrk : ((⟨36, 3, .slice (some ⟨g, 0, none⟩) n c, n, tCells X⟩ : Ro) :: rs)[0]? = some ⟨36, 3, .slice (some ⟨g, 0, none⟩) n c, n, tCells X⟩ := rfl
      obtain ⟨t0, t1, t2⟩ := tCells_get X j _ (List.getElem?_eq_getElem hXl)
      have x0 := hOj.cell hrk t0
      have x1 := hOj.cell hrk t1
      have x2 := hOj.cell hrk t2
      have f0 := hOj.frozen hrk (j * 3)
      have f1 := hOj.frozen hrk (j * 3 + 1)
      have f2 := hOj.frozen hrk (j * 3 + 2)
      obtain ⟨y0, hy0'⟩ : ∃ y, y = X[j].1 := ⟨_, rfl⟩
      obtain ⟨y1, hy1'⟩ : ∃ y, y = X[j].2.1 := ⟨_, rfl⟩
      obtain ⟨y2, hy2'⟩ : ∃ y, y = X[j].2.2 := ⟨_, rfl⟩
      rw [← hy0'] at x0
      rw [← hy1'] at x1
      rw [← hy2'] at x2
      clear hy0' hy1' hy2'
      have hST : ∀ W : World, Owns W B (⟨36, 3, .slice (some ⟨g, 0, none⟩) n c, n, tCells X⟩ :: rs) → Owns (((W.setCell ⟨g, j * 3, none⟩ (.int .u8 99)).setCell ⟨g, j * 3 + 1, none⟩ (.int .i64 (mkA (-1) j))).setCell ⟨g, j * 3 + 2, none⟩ (.string ⟨#[]⟩)) B (⟨36, 3, .slice (some ⟨g, 0, none⟩) n c, n, tCells (marks3 (-1) (j + 1) ++ xs.drop (j + 1))⟩ :: rs) := fun W hW => by
        have := tok_store hW hXl (mkTok (-1) j)
        rw [hX, over_set3 _ _ _ (by rw [HL.out]; exact hlt)] at this
        exact this
      have hgb := hOj.base hrk
      have HST := hide_ hST
      have HOJ := hide_ hOj
      have HMK := hide_ (fun W => markTokens_any (-1) (j : Int) W)
      obtain ⟨mk, hmk⟩ : ∃ mk, mk = mkA (-1) (j : Int) := ⟨_, rfl⟩
      rw [← hmk] at HMK HST
      have hg1 := hgb.1
      have hg2 := hgb.2
      clear hST hX hXl hOj hrk t0 t1 t2 hmk hgb HO
      go_wp2_with fail
      refine (HMK.out _).mono ?_
      rintro e w7 ⟨rfl, hb7⟩
      have q2 := (hb7.cell (p := ⟨g, j * 3, none⟩) hg2).trans x0
      have q3 := (hb7.cell (p := ⟨g, j * 3 + 1, none⟩) hg2).trans x1
      have q4 := (hb7.cell (p := ⟨g, j * 3 + 2, none⟩) hg2).trans x2
      have q5 := (hb7.frozen (p := ⟨g, j * 3, none⟩) hg2).trans f0
      have q6 := (hb7.frozen (p := ⟨g, j * 3 + 1, none⟩) hg2).trans f1
      have q7 := (hb7.frozen (p := ⟨g, j * 3 + 2, none⟩) hg2).trans f2
      have HB7 := hide_ hb7
      have HOW := hide_ (HST.out _ (HOJ.out.below hb7))
      clear x0 x1 x2 f0 f1 f2 hb7 HST HOJ
      go_wp2
      go_roundw
      case rel => exact ⟨j + 1, by omega, by go_num, HOW, ((((HB.out).trans (HB7.out.mono (Nat.le_trans HBS.out HSZ.out))).setCell (p := ⟨g, j * 3, none⟩) hg1 _).setCell (p := ⟨g, j * 3 + 1, none⟩) hg1 _).setCell (p := ⟨g, j * 3 + 2, none⟩) hg1 _⟩
      case measure => simp [intOf]; omega
    · obtain rfl : j = n := by omega
      have hfl : xs.drop j = [] := List.drop_eq_nil_of_le (by rw [HL.out]; exact Nat.le_refl _)
      have hOj := HO.out
      rw [hfl, List.append_nil] at hOj
      have HOJ := hide_ hOj
      clear hfl hOj HO
      go_wp2
      go_end0
      exact ⟨rfl, HOJ.out, HB.out⟩
end Go.Proofs.YtmbofpeedjlfhaaDoor
/-
  The walk of text.Glue.
-/
namespace Go.Proofs.YtmbofpeedjlfhaaDoor
open Go.RowKit Go.PlainAid Go.BigFrame
set_option linter.unusedVariables false
set_option maxRecDepth 100000

/-- the builder's state behind k tokens -/
def StG (tk : List TokV) (k : Nat) (lg : Bool) (b : Nat) (w : World) : Prop :=
  (lg = false → Lib.IsBuilderF 64 5 b b (Lib.byteCells (glueL tk k)) w ∧ (glueL tk k).length ≤ 524288) ∧ (lg = true → 524288 < (glueL tk k).length)
set_option maxHeartbeats 4000000 in
theorem tglue_any (A : Option Addr) (n c : Nat) (As : Option Addr) (ns cs B : Nat) (tk : List TokV) (sg : List ByteArray) (w : World) (hn : n ≤ 1048576) (hsz : ∀ k, (tokAt tk k).2.2.size ≤ 1048576) (hns : ns ≤ 140737488351232) (hnc : ns ≤ cs) (hr : Reads w B 3 A n (tCells tk)) (hs : Reads w B 1 As ns (strV sg)) (hB : B ≤ w.heap.size) :
    Calls Tryd.prog 17 #[.slice A n c, .slice As ns cs] w fun e w' => e = .returned (.tuple #[.string (glueN sg tk).1, .int .i64 (glueN sg tk).2]) ∧ Below w.heap.size w w' := by
  have hlen : tk.length = n := by have := hr.1; rw [tCells_len] at this; omega
  have HF := hide_ (fit_any As ns cs B sg w hns hnc hs hB)
  have HTO := hide_ (show ∀ (t : ByteArray) (W : World), t.size ≤ 1048576 → Below w.heap.size w W → Calls Tryd.prog 9 #[.string t, .slice As ns cs] W (ToksIs t (toksN t sg) W) from fun t W ht hW =>
    tokens_any t As ns cs B sg W (by omega) hns hnc (hs.below (hW.mono hB)) (Nat.le_trans hB hW.size))
  have HR := hide_ hr
  have HLEN := hide_ hlen
  have HBB := hide_ hB
  have HSZ := hide_ hsz
  cases hok : signsOk sg with
  | false =>
    rw [hok] at HF
    rw [glueN_signs sg tk hok]
    clear hr hs hlen hB hsz hok
    go_enter Tryd.func17, Tryd.ntmps17
    go_wp2_with fail
    refine HF.out.mono ?_
    rintro e w2 ⟨rfl, hb⟩
    have HB := hide_ hb
    clear hb
    go_wp2
    go_ret2
    exact ⟨rfl, HB.out⟩
  | true =>
  rw [hok] at HF
  obtain ⟨X, hX⟩ : ∃ X, X = glueN sg tk := ⟨_, rfl⟩
  have HBAD := hide_ (show ∀ k, k < n → goodB sg (tokAt tk k) = false → X = (⟨#[]⟩, 17) from fun k hk h => by rw [hX]; exact glueN_bad sg tk hok k (by omega) h)
  have HGOOD := hide_ (show goodTo sg tk n → X = if 524288 < (glueL tk n).length then (⟨#[]⟩, 15) else (⟨(glueL tk n).toArray⟩, 0) from fun h => by rw [hX]; rw [← hlen] at h ⊢; exact glueN_good sg tk hok h)
  rw [← hX]
  clear hr hs hlen hB hsz hok hX
  go_enter Tryd.func17, Tryd.ntmps17
  go_wp2_with fail
  refine HF.out.mono ?_
  rintro e w1 ⟨rfl, hb1⟩
  have HB1 := hide_ hb1
  have HBw := hide_ ((hb1.alloc hb1.size) (.cells #[.pointer none, .slice none 0 0] 64))
  have HI0 : Hid (StG tk 0 false w1.heap.size (w1.alloc (.cells #[.pointer none, .slice none 0 0] 64))) := hide_ ⟨fun _ => ⟨Lib.IsBuilderF.of (Lib.fresh_isBuilder 64 5 w1), by simp [glueL]⟩, fun h => by cases h⟩
  clear hb1 HF
  go_wp2_with fail
  go_loopw [7, 18] (fun lv i wr => ∃ (k : Nat) (lg : Bool), k ≤ n ∧ i = .int .i64 k ∧ lv = .bool lg ∧ Hid (goodTo sg tk k) ∧ Hid (StG tk k lg w1.heap.size wr) ∧ w1.heap.size < wr.heap.size ∧ Below w.heap.size w wr) (fun _ i _ => n - (intOf i).toNat)
  case atStart => exact ⟨0, false, Nat.zero_le _, rfl, rfl, hide_ (fun j hj => absurd hj (by omega)), HI0, by simp, HBw.out⟩
  case round =>
    clear HI0 HBw
    obtain ⟨k, lg, hk, rfl, rfl, HGT, HST, hbl, hb⟩ := hrel
    have HB := hide_ hb
    have HSW := hide_ hb.size
    by_cases hlt : k < n
    · obtain ⟨ad, rfl, hadb, q0, q1, q2⟩ := tok_cells (HR.out.below (hb.mono HBB.out)) k hlt
      have hads : (ad.add (k * 3)).block < wr.heap.size := by have := HBB.out; have := hb.size; omega
      have hgo := good_or sg (tokAt tk k)
      have HGB := hide_ (HBAD.out k hlt)
      have HTK := hide_ (HTO.out (tokAt tk k).2.2 (wr.alloc (.cells #[.int .u8 (tokAt tk k).1, .int .i64 (tokAt tk k).2.1, .string (tokAt tk k).2.2] 36)) (HSZ.out k) (hb.alloc hb.size _))
      have HTSZ := hide_ (HSZ.out k)
      have HPRV : Hid (∀ W : World, Below w.heap.size w W → 0 < k → W.cell? (ad.add ((k - 1) * 3)) = some (.int .u8 (tokAt tk (k - 1)).1)) := hide_ (fun W hW h0 => by
        obtain ⟨ad', e, _, p0, _⟩ := tok_cells (HR.out.below (hW.mono HBB.out)) (k - 1) (by omega)
        injection e with e
        subst e
        exact p0)
      have HGLB := hide_ (show glueB tk k = (if sepB tk k = true then [32] else []) ++ (tokAt tk k).2.2.data.toList from rfl)
      have HSEP := hide_ (show sepB tk k = (decide (0 < k) && decide ((tokAt tk k).1 ≠ 6) && decide ((tokAt tk (k - 1)).1 ≠ 6)) from rfl)
      obtain ⟨P0, hP0⟩ : ∃ P, P = (tokAt tk (k - 1)).1 := ⟨_, rfl⟩
      obtain ⟨⟨K, at9, T⟩, ht⟩ : ∃ t, t = tokAt tk k := ⟨_, rfl⟩
      rw [← ht] at q0 q1 q2 hgo HGB HTK HTSZ HGLB HSEP
      rw [← hP0] at HPRV HSEP
      have HT9 := hide_ ht
      simp only at q0 q1 q2 HTK hgo HTSZ HGLB HSEP
      have HBX := hide_ (Blk.new wr 36 #[.int .u8 K, .int .i64 at9, .string T])
      have HB9 := hide_ (hb.alloc hb.size (.cells #[.int .u8 K, .int .i64 at9, .string T] 36))
      clear ht hP0 hb hadb
      rcases hgo with ⟨hg, ⟨xk, xa, xe⟩, hx, h1, h2, h3⟩ | ⟨hg, hbad⟩
      · simp only at h1 h2
        subst h1
        rw [hx] at HTK
        unfold ToksIs at HTK
        simp only [Option.getD_some, List.length_cons, List.length_nil] at HTK
        have hce : tkCells T [(xk, xa, xe)] = [.int .u8 xk, .int .i64 xa, .string T] := by
          show [Value.int .u8 xk, .int .i64 xa, .string (T.extract xa xe)] = _
          rw [h2]
        rw [hce] at HTK
        have HG := hide_ hg
        have HT3 := hide_ h3
        clear hx hce hg h2 h3 HGB
        go_wp2_with fail
        refine HTK.out.mono ?_
        rintro e w3 ⟨v, rfl, hown, hb3⟩
        obtain ⟨g, cv, rfl⟩ := ownsRow_some hown (by decide)
        have hO := one_row (r := ⟨36, 3, .slice (some ⟨g, 0, none⟩) 1 cv, 1, [.int .u8 xk, .int .i64 xa, .string T]⟩) hown
        have c0 := hO.cell (i := 0) (j := 0) rfl rfl
        have c2 := hO.cell (i := 0) (j := 2) rfl rfl
        have hg9 := (hO.base (i := 0) rfl).2
        have HBX3 := hide_ (HBX.out.below hb3 (by simp))
        have b0 := HBX3.out.cell 0
        have b2 := HBX3.out.cell 2
        have hbx := HBX3.out.lt
        simp at b0 b2
        have HB3 := hide_ (HB9.out.trans (hb3.mono (by have := HSW.out; simp; omega)))
        have HBL : Hid (Below wr.heap.size wr w3) := hide_ (((Below.refl _ wr).alloc (Nat.le_refl _) _).trans (hb3.mono (by simp)))
        clear hO hown hb3 q0 q1 q2
        go_upto_region 9 with (fail)
        go_big_quiet (fail)
        cases lg with
        | true =>
          have HL := hide_ (HST.out.2 rfl)
          clear HST
          go_wp2
          go_roundw
          case rel => exact ⟨k + 1, true, by omega, by go_num, rfl, hide_ (goodTo_succ HGT.out (by rw [← HT9.out]; exact HG.out)), hide_ ⟨(fun h => by cases h), fun _ => Nat.lt_of_lt_of_le HL.out (glueL_mono tk 1 k)⟩, by have := HBL.out.size; simp; omega, below_draws2 HB3.out _⟩
          case measure => simp [intOf]; omega
        | false =>
          obtain ⟨hI, hL⟩ := HST.out.1 rfl
          have HI := hide_ (show Lib.IsBuilderF 64 5 w1.heap.size w1.heap.size (Lib.byteCells (glueL tk k)) w3 from builder_below hI HBL.out)
          have HL := hide_ hL
          obtain ⟨L, hLL⟩ : ∃ L, L = glueL tk k := ⟨_, rfl⟩
          rw [← hLL] at HI HL
          have HLL := hide_ hLL
          have HPR := hide_ (HPRV.out w3 HB3.out)
          clear HST hI hL hLL
          obtain ⟨S, hS⟩ : ∃ S, S = sepB tk k := ⟨_, rfl⟩
          rw [← hS] at HSEP HGLB
          clear hS
          go_upto_region 12 with (fail)
          go_cut [72] from 19 to 79 (fun sv wx => sv = .bool S ∧ w3.drewN nq = wx)
          case first =>
            by_cases h0 : 0 < k
            · have prv := HPR.out h0
              have hadp : (ad.add ((k - 1) * 3)).block < w3.heap.size := by rw [block_of_add] at hads ⊢; have := HBL.out.size; omega
              have z0 : decide (0 < (k : Int)) = true := decide_eq_true (by omega)
              have z0' : decide (0 < k) = true := decide_eq_true (by omega)
              have z1 : ((k : Int) - 1) = ((k - 1 : Nat) : Int) := by omega
              have z2 : k - 1 < n := by omega
              by_cases h6 : xk = 6
              · have d2 : (xk != 6) = false := by simp [h6]
                have HS1 := hide_ (show S = false by rw [HSEP.out, h6]; simp)
                clear h6 h0
                go_wp2
                go_meet
                exact ⟨by rw [HS1.out], rfl⟩
              · have d2 : (xk != 6) = true := bne_iff_ne.2 h6
                by_cases hp : P0 = 6
                · have d3 : (P0 != 6) = false := by simp [hp]
                  have HS1 := hide_ (show S = false by rw [HSEP.out, hp]; simp)
                  clear h6 h0 hp
                  go_wp2
                  go_meet
                  exact ⟨by rw [HS1.out], rfl⟩
                · have d3 : (P0 != 6) = true := bne_iff_ne.2 hp
                  have HS1 := hide_ (show S = true by rw [HSEP.out, decide_eq_true h0, decide_eq_true h6, decide_eq_true hp]; rfl)
                  clear h6 h0 hp
                  go_wp2
                  go_meet
                  exact ⟨by rw [HS1.out], rfl⟩
            · have z0 : decide (0 < (k : Int)) = false := decide_eq_false (by omega)
              have z0' : decide (0 < k) = false := decide_eq_false (by omega)
              have HS1 := hide_ (show S = false by rw [HSEP.out, decide_eq_false h0]; rfl)
              clear h0
              go_wp2
              go_meet
              exact ⟨by rw [HS1.out], rfl⟩
          case rest =>
            obtain ⟨rfl, rfl⟩ := hcut
            cases S
            · have HN := hide_ (show glueL tk (k + 1) = L ++ T.data.toList by rw [glueL, HGLB.out, ← HLL.out]; rfl)
              have HCC := hide_ (show Lib.byteCells L ++ Lib.strCells T = Lib.byteCells (glueL tk (k + 1)) by rw [HN.out, Lib.strCells_eq, Lib.byteCells_append])
              have HLN := hide_ (show (Lib.byteCells L).length ≤ 524288 by rw [Lib.byteCells_length]; exact HL.out)
              go_wp2_with fail
              refine (bld_string w1.heap.size w1.heap.size (Lib.byteCells L) T (w3.drewN nq) HI.out (by have := HLN.out; have := HT3.out; omega) (by have := HBL.out.size; rw [World.heap_drewN]; omega)).mono ?_
              rintro e w5 ⟨rfl, h2, b2, _⟩
              rw [HCC.out] at h2
              have HI5 := hide_ (isB_k h2)
              have HLE := hide_ (Tryd.Builder_Len_f w1.heap.size w1.heap.size (Lib.byteCells (glueL tk (k + 1))) w5 (isB_k h2))
              have HB5 := hide_ ((below_draws2 HB3.out nq).trans (b2.mono HB1.out.size))
              have HS5 := hide_ b2.size
              obtain ⟨N, hN⟩ : ∃ N : Nat, N = (Lib.byteCells (glueL tk (k + 1))).length := ⟨_, rfl⟩
              rw [← hN] at HLE
              have HNN := hide_ (show N = (glueL tk (k + 1)).length by rw [hN, Lib.byteCells_length])
              have HNB := hide_ (show N ≤ 1048577 by rw [hN, Lib.byteCells_length, HN.out, List.length_append]; have := HL.out; have := HT3.out; show L.length + T.size ≤ _; omega)
              clear h2 b2 hN HCC HN
              go_wp2_with fail
              refine HLE.out.mono ?_
              rintro e w6 ⟨rfl, rfl⟩
              by_cases hbig : 524288 < N
              · have dN : decide (524288 < (N : Int)) = true := decide_eq_true (by omega)
                have HBG := hide_ hbig
                clear hbig
                go_wp2
                go_roundw
                case rel => first | exact ⟨k + 1, true, by omega, by go_num, rfl, hide_ (goodTo_succ HGT.out (by rw [← HT9.out]; exact HG.out)), hide_ ⟨(fun h => by cases h), fun _ => by have := HNN.out; have := HBG.out; omega⟩, by have := HBL.out.size; have := HS5.out; rw [World.heap_drewN] at this; omega, HB5.out⟩ | ((repeat apply Exists.intro); exact ⟨⟨k + 1, true, by omega, by go_num, rfl, hide_ (goodTo_succ HGT.out (by rw [← HT9.out]; exact HG.out)), hide_ ⟨(fun h => by cases h), fun _ => by have := HNN.out; have := HBG.out; omega⟩, by have := HBL.out.size; have := HS5.out; rw [World.heap_drewN] at this; omega, HB5.out⟩, rfl⟩)
                case measure => simp [intOf]; omega
              · have dN : decide (524288 < (N : Int)) = false := decide_eq_false (by omega)
                have HBG := hide_ hbig
                clear hbig
                go_wp2
                go_roundw
                case rel => first | exact ⟨k + 1, false, by omega, by go_num, rfl, hide_ (goodTo_succ HGT.out (by rw [← HT9.out]; exact HG.out)), hide_ ⟨fun _ => ⟨HI5.out, by have := HNN.out; have := HBG.out; omega⟩, fun h => by cases h⟩, by have := HBL.out.size; have := HS5.out; rw [World.heap_drewN] at this; omega, HB5.out⟩ | ((repeat apply Exists.intro); exact ⟨⟨k + 1, false, by omega, by go_num, rfl, hide_ (goodTo_succ HGT.out (by rw [← HT9.out]; exact HG.out)), hide_ ⟨fun _ => ⟨HI5.out, by have := HNN.out; have := HBG.out; omega⟩, fun h => by cases h⟩, by have := HBL.out.size; have := HS5.out; rw [World.heap_drewN] at this; omega, HB5.out⟩, rfl⟩)
                case measure => simp [intOf]; omega
            · have HN := hide_ (show glueL tk (k + 1) = L ++ (([32] : List UInt8) ++ T.data.toList) by rw [glueL, HGLB.out, ← HLL.out]; rfl)
              have HCC := hide_ (show (Lib.byteCells L ++ [.int .u8 32]) ++ Lib.strCells T = Lib.byteCells (glueL tk (k + 1)) by rw [HN.out, Lib.strCells_eq, Lib.byteCells_append, Lib.byteCells_append, List.append_assoc]; rfl)
              have HLN := hide_ (show (Lib.byteCells L).length ≤ 524288 by rw [Lib.byteCells_length]; exact HL.out)
              go_wp2_with fail
              refine (bld_byte w1.heap.size w1.heap.size (Lib.byteCells L) 32 (w3.drewN nq) HI.out (by have := HLN.out; omega) (by have := HBL.out.size; rw [World.heap_drewN]; omega)).mono ?_
              rintro e w4 ⟨rfl, h4, b4, k4⟩
              have HI4 := hide_ (isB_k h4)
              have HB4 := hide_ b4
              have HBX4 := hide_ (others_blk (e := 5) k4 (show Blk (w3.drewN nq) wr.heap.size 36 _ from HBX3.out) (by omega) (by decide))
              have e2 := HBX4.out.cell 2
              have hbx4 := HBX4.out.lt
              have HS4 := hide_ b4.size
              simp at e2
              clear h4 b4 k4
              go_wp2_with fail
              refine (bld_string w1.heap.size w1.heap.size (Lib.byteCells L ++ [.int .u8 32]) T w4 HI4.out (by have := HLN.out; have := HT3.out; simp only [List.length_append, List.length_cons, List.length_nil]; omega) (by have := HBL.out.size; have := HS4.out; rw [World.heap_drewN] at this; omega)).mono ?_
              rintro e w5 ⟨rfl, h2, b2, _⟩
              rw [HCC.out] at h2
              have HI5 := hide_ (isB_k h2)
              have HLE := hide_ (Tryd.Builder_Len_f w1.heap.size w1.heap.size (Lib.byteCells (glueL tk (k + 1))) w5 (isB_k h2))
              have HB5 := hide_ (((below_draws2 HB3.out nq).trans (HB4.out.mono HB1.out.size)).trans (b2.mono HB1.out.size))
              have HS5 := hide_ b2.size
              obtain ⟨N, hN⟩ : ∃ N : Nat, N = (Lib.byteCells (glueL tk (k + 1))).length := ⟨_, rfl⟩
              rw [← hN] at HLE
              have HNN := hide_ (show N = (glueL tk (k + 1)).length by rw [hN, Lib.byteCells_length])
              have HNB := hide_ (show N ≤ 1048578 by rw [hN, Lib.byteCells_length, HN.out, List.length_append, List.length_append]; have := HL.out; have := HT3.out; show L.length + (1 + T.size) ≤ _; omega)
              clear h2 b2 hN HCC HN
              go_wp2_with fail
              refine HLE.out.mono ?_
              rintro e w6 ⟨rfl, rfl⟩
              by_cases hbig : 524288 < N
              · have dN : decide (524288 < (N : Int)) = true := decide_eq_true (by omega)
                have HBG := hide_ hbig
                clear hbig
                go_wp2
                go_roundw
                case rel => first | exact ⟨k + 1, true, by omega, by go_num, rfl, hide_ (goodTo_succ HGT.out (by rw [← HT9.out]; exact HG.out)), hide_ ⟨(fun h => by cases h), fun _ => by have := HNN.out; have := HBG.out; omega⟩, by have := HBL.out.size; have h8 := HS4.out; have h9 := HS5.out; rw [World.heap_drewN] at h8; omega, HB5.out⟩ | ((repeat apply Exists.intro); exact ⟨⟨k + 1, true, by omega, by go_num, rfl, hide_ (goodTo_succ HGT.out (by rw [← HT9.out]; exact HG.out)), hide_ ⟨(fun h => by cases h), fun _ => by have := HNN.out; have := HBG.out; omega⟩, by have := HBL.out.size; have h8 := HS4.out; have h9 := HS5.out; rw [World.heap_drewN] at h8; omega, HB5.out⟩, rfl⟩)
                case measure => simp [intOf]; omega
              · have dN : decide (524288 < (N : Int)) = false := decide_eq_false (by omega)
                have HBG := hide_ hbig
                clear hbig
                go_wp2
                go_roundw
                case rel => first | exact ⟨k + 1, false, by omega, by go_num, rfl, hide_ (goodTo_succ HGT.out (by rw [← HT9.out]; exact HG.out)), hide_ ⟨fun _ => ⟨HI5.out, by have := HNN.out; have := HBG.out; omega⟩, fun h => by cases h⟩, by have := HBL.out.size; have h8 := HS4.out; have h9 := HS5.out; rw [World.heap_drewN] at h8; omega, HB5.out⟩ | ((repeat apply Exists.intro); exact ⟨⟨k + 1, false, by omega, by go_num, rfl, hide_ (goodTo_succ HGT.out (by rw [← HT9.out]; exact HG.out)), hide_ ⟨fun _ => ⟨HI5.out, by have := HNN.out; have := HBG.out; omega⟩, fun h => by cases h⟩, by have := HBL.out.size; have h8 := HS4.out; have h9 := HS5.out; rw [World.heap_drewN] at h8; omega, HB5.out⟩, rfl⟩)
                case measure => simp [intOf]; omega
      · have HXB := hide_ (HGB.out hg)
        clear HGB hg HST HPRV
        rcases hbad with ⟨p, er, hx, her⟩ | ⟨l, hx, hll⟩ | ⟨x, hx, hne⟩ | ⟨x, hx, heq, hne⟩
        · rw [hx] at HTK
          unfold ToksIs at HTK
          simp only [Option.getD_none, List.length_nil] at HTK
          have d1 : (er != 0) = true := bne_iff_ne.2 her
          clear hx her
          go_wp2_with fail
          refine HTK.out.mono ?_
          rintro e w3 ⟨v, rfl, hown, hb3⟩
          obtain ⟨A2, c2, rfl, _, _⟩ := ownsRow_slice hown
          have HB3 := hide_ (HB9.out.trans (hb3.mono (by have := HSW.out; simp; omega)))
          clear hown hb3 q0 q1 q2
          go_upto_region 9 with (fail)
          go_big_quiet (fail)
          go_wp2
          go_ret2
          exact ⟨by rw [HXB.out]; rfl, below_draws2 HB3.out _⟩
        · rw [hx] at HTK
          unfold ToksIs at HTK
          simp only [Option.getD_some] at HTK
          have d1 : ((l.length : Int) != 1) = true := bne_iff_ne.2 (by omega)
          clear hx hll
          go_wp2_with fail
          refine HTK.out.mono ?_
          rintro e w3 ⟨v, rfl, hown, hb3⟩
          obtain ⟨A2, c2, rfl, _, _⟩ := ownsRow_slice hown
          have HB3 := hide_ (HB9.out.trans (hb3.mono (by have := HSW.out; simp; omega)))
          clear hown hb3 q0 q1 q2
          go_upto_region 9 with (fail)
          go_big_quiet (fail)
          go_wp2
          go_ret2
          exact ⟨by rw [HXB.out]; rfl, below_draws2 HB3.out _⟩
        · obtain ⟨xk, xa, xe⟩ := x
          rw [hx] at HTK
          unfold ToksIs at HTK
          simp only [Option.getD_some, List.length_cons, List.length_nil] at HTK
          simp only at hne
          rw [show tkCells T [(xk, xa, xe)] = [.int .u8 xk, .int .i64 xa, .string (T.extract xa xe)] from rfl] at HTK
          have d1 : (xk != K) = true := bne_iff_ne.2 hne
          clear hx hne
          go_wp2_with fail
          refine HTK.out.mono ?_
          rintro e w3 ⟨v, rfl, hown, hb3⟩
          obtain ⟨g, cv, rfl⟩ := ownsRow_some hown (by decide)
          have hO := one_row (r := ⟨36, 3, .slice (some ⟨g, 0, none⟩) 1 cv, 1, [.int .u8 xk, .int .i64 xa, .string (T.extract xa xe)]⟩) hown
          have c0 := hO.cell (i := 0) (j := 0) rfl rfl
          have hg9 := (hO.base (i := 0) rfl).2
          have HBX3 := hide_ (HBX.out.below hb3 (by simp))
          have b0 := HBX3.out.cell 0
          have hbx := HBX3.out.lt
          simp at b0
          have HB3 := hide_ (HB9.out.trans (hb3.mono (by have := HSW.out; simp; omega)))
          clear hO hown hb3 q0 q1 q2
          go_upto_region 9 with (fail)
          go_big_quiet (fail)
          go_wp2
          go_ret2
          exact ⟨by rw [HXB.out]; rfl, below_draws2 HB3.out _⟩
        · obtain ⟨xk, xa, xe⟩ := x
          rw [hx] at HTK
          unfold ToksIs at HTK
          simp only [Option.getD_some, List.length_cons, List.length_nil] at HTK
          simp only at hne heq
          subst heq
          rw [show tkCells T [(xk, xa, xe)] = [.int .u8 xk, .int .i64 xa, .string (T.extract xa xe)] from rfl] at HTK
          obtain ⟨Y, hY⟩ : ∃ Y, Y = T.extract xa xe := ⟨_, rfl⟩
          rw [← hY] at HTK hne
          have d1 := toList_ne hne
          clear hx hne hY
          go_wp2_with fail
          refine HTK.out.mono ?_
          rintro e w3 ⟨v, rfl, hown, hb3⟩
          obtain ⟨g, cv, rfl⟩ := ownsRow_some hown (by decide)
          have hO := one_row (r := ⟨36, 3, .slice (some ⟨g, 0, none⟩) 1 cv, 1, [.int .u8 xk, .int .i64 xa, .string Y]⟩) hown
          have c0 := hO.cell (i := 0) (j := 0) rfl rfl
          have c2 := hO.cell (i := 0) (j := 2) rfl rfl
          have hg9 := (hO.base (i := 0) rfl).2
          have HBX3 := hide_ (HBX.out.below hb3 (by simp))
          have b0 := HBX3.out.cell 0
          have b2 := HBX3.out.cell 2
          have hbx := HBX3.out.lt
          simp at b0 b2
          have HB3 := hide_ (HB9.out.trans (hb3.mono (by have := HSW.out; simp; omega)))
          clear hO hown hb3 q0 q1 q2
          go_upto_region 9 with (fail)
          go_big_quiet (fail)
          go_wp2
          go_ret2
          exact ⟨by rw [HXB.out]; rfl, below_draws2 HB3.out _⟩
    · obtain rfl : k = n := by omega
      have hX := HGOOD.out HGT.out
      clear hb
      cases lg with
      | true =>
        have HX := hide_ (show X = (⟨#[]⟩, 15) by rw [hX, if_pos (HST.out.2 rfl)])
        clear hX HST
        go_wp2
        go_ret2
        exact ⟨by rw [HX.out]; rfl, HB.out⟩
      | false =>
        obtain ⟨hI, hL⟩ := HST.out.1 rfl
        have HX := hide_ (show X = (⟨(glueL tk k).toArray⟩, 0) by rw [hX, if_neg (by omega)])
        have HSTR := hide_ (Tryd.Builder_String_any_f w1.heap.size w1.heap.size (glueL tk k) wr hI (by omega))
        clear hX HST hI hL
        go_wp2_with fail
        refine HSTR.out.mono ?_
        rintro e w7 ⟨rfl, _, hb7⟩
        have HB7 := hide_ (HB.out.trans (hb7.mono HB1.out.size))
        clear hb7
        go_wp2
        go_ret2
        exact ⟨by rw [HX.out]; rfl, HB7.out⟩
end Go.Proofs.YtmbofpeedjlfhaaDoor
/-
  The walk of the document's Glue.
-/
namespace Go.Proofs.YtmbofpeedjlfhaaDoor
open Go.RowKit Go.PlainAid Go.BigFrame
set_option linter.unusedVariables false
set_option maxRecDepth 100000

theorem glueL_bd (tk : List TokV) (h : ∀ k, (tokAt tk k).2.2.size ≤ 1048576) : ∀ k, (glueL tk k).length ≤ k * 1048577 := by
  intro k
  induction k with
  | zero => simp [glueL]
  | succ k ih =>
    rw [glueL, List.length_append]
    have := glueB_len tk k 1048576 (h k)
    omega
theorem bytes_u8s (L : List UInt8) : Lib.byteCells L = u8s (L.map fun b => (b.toNat : Int)) := by
  unfold Lib.byteCells u8s
  rw [List.map_map]
  rfl
theorem str_bytes (L : List UInt8) : strOfNums (L.map fun b => (b.toNat : Int)) = ⟨L.toArray⟩ := by
  apply ByteArray.ext
  apply Array.toList_inj.1
  show b8s (L.map fun b => (b.toNat : Int)) = L
  unfold b8s
  induction L with
  | nil => rfl
  | cons b t ih => simp only [List.map_cons, Int.toNat_natCast, UInt8.ofNat_toNat, ih]
set_option maxHeartbeats 4000000 in
theorem rglue_any (A : Option Addr) (n c : Nat) (As : Option Addr) (ns cs B : Nat) (tk : List TokV) (sg : List ByteArray) (w : World) (hn : n ≤ 1048576) (hsz : ∀ k, (tokAt tk k).2.2.size ≤ 1048576) (hns : ns ≤ 140737488351232) (hgz : ∀ g ∈ sg, g.size ≤ 140737488351232) (hr : Reads w B 3 A n (tCells tk)) (hs : Reads w B 1 As ns (strV sg)) (hB : B ≤ w.heap.size) :
    Calls Tryd.prog 15 #[.slice A n c, .slice As ns cs] w fun e w' => e = .returned (.tuple #[.string (glueN sg tk).1, .int .i64 (glueN sg tk).2]) ∧ Below w.heap.size w w' := by
  obtain ⟨i0, hi0, hz0, hz1, hz2⟩ := info_parts bld_u8
  have hlen : tk.length = n := by have := hr.1; rw [tCells_len] at this; omega
  have HF := hide_ (SignsMay_any As ns cs B sg w hns hgz hs hB)
  have HTO := hide_ (show ∀ (t : ByteArray) (W : World), t.size ≤ 1048576 → Below w.heap.size w W → Calls Tryd.prog 31 #[.string t, .slice As ns cs] W (ToksIs t (toksN t sg) W) from fun t W ht hW =>
    rtokens_any t As ns cs B sg W (by omega) hns hgz (hs.below (hW.mono hB)) (Nat.le_trans hB hW.size))
  have HR := hide_ hr
  have HLEN := hide_ hlen
  have HBB := hide_ hB
  have HSZ := hide_ hsz
  cases hok : signsOk sg with
  | false =>
    rw [hok] at HF
    rw [glueN_signs sg tk hok]
    clear hr hs hlen hB hsz hok hgz
    go_enter Tryd.func15, Tryd.ntmps15
    go_wp2_with fail
    refine HF.out.mono ?_
    rintro e w2 ⟨rfl, hd⟩
    have HB := hide_ (hd.below w.heap.size)
    clear hd
    go_wp2
    go_ret2
    exact ⟨rfl, HB.out⟩
  | true =>
  rw [hok] at HF
  obtain ⟨X, hX⟩ : ∃ X, X = glueN sg tk := ⟨_, rfl⟩
  have HBAD := hide_ (show ∀ k, k < n → goodB sg (tokAt tk k) = false → X = (⟨#[]⟩, 17) from fun k hk h => by rw [hX]; exact glueN_bad sg tk hok k (by omega) h)
  have HGOOD := hide_ (show goodTo sg tk n → X = if 524288 < (glueL tk n).length then (⟨#[]⟩, 15) else (⟨(glueL tk n).toArray⟩, 0) from fun h => by rw [hX]; rw [← hlen] at h ⊢; exact glueN_good sg tk hok h)
  rw [← hX]
  clear hr hs hlen hB hsz hok hX hgz
  go_enter Tryd.func15, Tryd.ntmps15
  go_wp2_with fail
  refine HF.out.mono ?_
  rintro e w1 ⟨rfl, hd⟩
  have HBw := hide_ (hd.below w.heap.size)
  clear hd HF
  go_wp2_with fail
  go_loopw [6, 7] (fun v i wr => ∃ (k : Nat) (A0 : Option Addr) (c0 : Nat), k ≤ n ∧ i = .int .i64 k ∧ v = .slice A0 (glueL tk k).length c0 ∧ Hid (goodTo sg tk k) ∧ Hid (wr.ownsRow w.heap.size 5 1 (.slice A0 (glueL tk k).length c0) (glueL tk k).length (Lib.byteCells (glueL tk k))) ∧ Below w.heap.size w wr) (fun _ i _ => n - (intOf i).toNat)
  case atStart => exact ⟨0, none, 0, Nat.zero_le _, rfl, rfl, hide_ (fun j hj => absurd hj (by omega)), hide_ (World.ownsRow_nil _ _ _ _), HBw.out⟩
  case round =>
    clear HBw
    obtain ⟨k, A0, c0, hk, rfl, rfl, HGT, HOWN, hb⟩ := hrel
    have HB := hide_ hb
    have HSW := hide_ hb.size
    by_cases hlt : k < n
    · obtain ⟨ad, rfl, hadb, q0, q1, q2⟩ := tok_cells (HR.out.below (hb.mono HBB.out)) k hlt
      have hads : (ad.add (k * 3)).block < wr.heap.size := by have := HBB.out; have := hb.size; omega
      have hadw : (ad.add (k * 3)).block < w.heap.size := by have := HBB.out; omega
      have hgo := good_or sg (tokAt tk k)
      have HGB := hide_ (HBAD.out k hlt)
      have HTK := hide_ (HTO.out (tokAt tk k).2.2 wr (HSZ.out k) hb)
      have HTSZ := hide_ (HSZ.out k)
      have HPRV : Hid (∀ W : World, Below w.heap.size w W → 0 < k → W.cell? (ad.add ((k - 1) * 3)) = some (.int .u8 (tokAt tk (k - 1)).1)) := hide_ (fun W hW h0 => by
        obtain ⟨ad', e, _, p0, _⟩ := tok_cells (HR.out.below (hW.mono HBB.out)) (k - 1) (by omega)
        injection e with e
        subst e
        exact p0)
      have HGLB := hide_ (show glueB tk k = (if sepB tk k = true then [32] else []) ++ (tokAt tk k).2.2.data.toList from rfl)
      have HSEP := hide_ (show sepB tk k = (decide (0 < k) && decide ((tokAt tk k).1 ≠ 6) && decide ((tokAt tk (k - 1)).1 ≠ 6)) from rfl)
      have HBD := hide_ (glueL_bd tk HSZ.out k)
      obtain ⟨P0, hP0⟩ : ∃ P, P = (tokAt tk (k - 1)).1 := ⟨_, rfl⟩
      obtain ⟨⟨K, at9, T⟩, ht⟩ : ∃ t, t = tokAt tk k := ⟨_, rfl⟩
      obtain ⟨L, hL⟩ : ∃ L, L = glueL tk k := ⟨_, rfl⟩
      rw [← ht] at q0 q1 q2 hgo HGB HTK HTSZ HGLB HSEP
      rw [← hP0] at HPRV HSEP
      rw [← hL] at HOWN HBD ⊢
      have HLL := hide_ hL
      have HT9 := hide_ ht
      simp only at q0 q1 q2 HTK hgo HTSZ HGLB HSEP
      have HQ0 := hide_ q0
      have HQ2 := hide_ q2
      clear ht hP0 hb hadb hL q0 q1
      rcases hgo with ⟨hg, ⟨xk, xa, xe⟩, hx, h1, h2, h3⟩ | ⟨hg, hbad⟩
      · simp only at h1 h2
        subst h1
        rw [hx] at HTK
        unfold ToksIs at HTK
        simp only [Option.getD_some, List.length_cons, List.length_nil] at HTK
        have hce : tkCells T [(xk, xa, xe)] = [.int .u8 xk, .int .i64 xa, .string T] := by
          show [Value.int .u8 xk, .int .i64 xa, .string (T.extract xa xe)] = _
          rw [h2]
        rw [hce] at HTK
        have HG := hide_ hg
        have HT3 := hide_ h3
        clear hx hce hg h2 h3 HGB
        go_wp2_with fail
        refine HTK.out.mono ?_
        rintro e w3 ⟨v, rfl, hown, hb3⟩
        obtain ⟨g, cv, rfl⟩ := ownsRow_some hown (by decide)
        have hO := one_row (r := ⟨36, 3, .slice (some ⟨g, 0, none⟩) 1 cv, 1, [.int .u8 xk, .int .i64 xa, .string T]⟩) hown
        have c0' := hO.cell (i := 0) (j := 0) rfl rfl
        have c2' := hO.cell (i := 0) (j := 2) rfl rfl
        have hg9 := (hO.base (i := 0) rfl).2
        have p0 := (hb3.cell (p := ad.add (k * 3)) hads).trans HQ0.out
        have p2 := (hb3.cell (p := ⟨(ad.add (k * 3)).block, (ad.add (k * 3)).off + 2, none⟩) hads).trans HQ2.out
        have hads3 : (ad.add (k * 3)).block < w3.heap.size := Nat.lt_of_lt_of_le hads hb3.size
        have HB3 := hide_ (HB.out.trans (hb3.mono HSW.out))
        have HO3 := hide_ (((one_row (r := ⟨5, 1, .slice A0 L.length c0, L.length, Lib.byteCells L⟩) HOWN.out).below hb3))
        have HS3 := hide_ hb3.size
        clear hO hown hb3 q2
        go_upto_region 8 with (fail)
        go_big_quiet (fail)
        have HPR := hide_ (HPRV.out w3 HB3.out)
        obtain ⟨S, hS⟩ : ∃ S, S = sepB tk k := ⟨_, rfl⟩
        rw [← hS] at HSEP HGLB
        clear hS
        go_upto_region 10 with (fail)
        go_cut [80] from 14 to 90 (fun sv wx => sv = .bool S ∧ w3.drewN nq = wx)
        case first =>
          by_cases h0 : 0 < k
          · have prv := HPR.out h0
            have hadp : (ad.add ((k - 1) * 3)).block < w3.heap.size := by rw [block_of_add] at hads3 ⊢; exact hads3
            have z0 : decide (0 < (k : Int)) = true := decide_eq_true (by omega)
            have z0' : decide (0 < k) = true := decide_eq_true (by omega)
            have z1 : ((k : Int) - 1) = ((k - 1 : Nat) : Int) := by omega
            have z2 : k - 1 < n := by omega
            by_cases h6 : xk = 6
            · have d2 : (xk != 6) = false := by simp [h6]
              have HS1 := hide_ (show S = false by rw [HSEP.out, h6]; simp)
              clear h6 h0
              go_wp2
              go_meet
              exact ⟨by rw [HS1.out], rfl⟩
            · have d2 : (xk != 6) = true := bne_iff_ne.2 h6
              by_cases hp : P0 = 6
              · have d3 : (P0 != 6) = false := by simp [hp]
                have HS1 := hide_ (show S = false by rw [HSEP.out, hp]; simp)
                clear h6 h0 hp
                go_wp2
                go_meet
                exact ⟨by rw [HS1.out], rfl⟩
              · have d3 : (P0 != 6) = true := bne_iff_ne.2 hp
                have HS1 := hide_ (show S = true by rw [HSEP.out, decide_eq_true h0, decide_eq_true h6, decide_eq_true hp]; rfl)
                clear h6 h0 hp
                go_wp2
                go_meet
                exact ⟨by rw [HS1.out], rfl⟩
          · have z0 : decide (0 < (k : Int)) = false := decide_eq_false (by omega)
            have z0' : decide (0 < k) = false := decide_eq_false (by omega)
            have HS1 := hide_ (show S = false by rw [HSEP.out, decide_eq_false h0]; rfl)
            clear h0
            go_wp2
            go_meet
            exact ⟨by rw [HS1.out], rfl⟩
        case rest =>
          obtain ⟨rfl, rfl⟩ := hcut
          cases S
          · have HN := hide_ (show glueL tk (k + 1) = L ++ T.data.toList by rw [glueL, HGLB.out, ← HLL.out]; rfl)
            go_wp2_with (at_builtin; refine Lib.wpList_append_own_string (w3.drewN nq) rfl (.tmp 84) (.tmp 89) 51 9 rfl w.heap.size 5 i0 Tryd.underlying51 Tryd.underlying9 hi0 hz0 hz1 hz2 (.slice A0 L.length c0) L.length (Lib.byteCells L) rfl ((HO3.out.at_ (i := 0) rfl)) T rfl (by have := HBD.out; have := HTSZ.out; simp only [maxLen]; omega) (by have := HBD.out; have := HTSZ.out; omega) (by have := HB3.out.size; rw [World.heap_drewN]; omega) ?_)
            intro v5 w5 hown5 hgr5 _
            obtain ⟨A5, c5, rfl, _, _⟩ := ownsRow_slice hown5
            have HO5 := hide_ (show w5.ownsRow w.heap.size 5 1 (.slice A5 (glueL tk (k + 1)).length c5) (glueL tk (k + 1)).length (Lib.byteCells (glueL tk (k + 1))) by
              rw [HN.out, Lib.byteCells_append, List.length_append]
              exact hown5)
            have HLE := hide_ (show (glueL tk (k + 1)).length = L.length + T.size by rw [HN.out, List.length_append]; rfl)
            have HB5 := hide_ ((below_draws2 HB3.out nq).grown hgr5 (by have := HB3.out.size; rw [World.heap_drewN]; omega) (fun j hj => ((HO3.out.at_ (i := 0) rfl).lt j hj).1))
            clear hown5 hgr5
            go_wp2
            go_roundw
            case rel => first | exact ⟨k + 1, A5, c5, by omega, by go_num, by rw [HLE.out], hide_ (goodTo_succ HGT.out (by rw [← HT9.out]; exact HG.out)), HO5, HB5.out⟩ | ((repeat apply Exists.intro); exact ⟨⟨k + 1, A5, c5, by omega, by go_num, by rw [HLE.out], hide_ (goodTo_succ HGT.out (by rw [← HT9.out]; exact HG.out)), HO5, HB5.out⟩, rfl⟩)
            case measure => simp [intOf]; omega
          · have HN := hide_ (show glueL tk (k + 1) = L ++ (([32] : List UInt8) ++ T.data.toList) by rw [glueL, HGLB.out, ← HLL.out]; rfl)
            go_wp2_with (at_builtin; refine wpList_append_owns _ rfl (.tmp 81) (.tmp 82) 51 rfl w.heap.size _ 0 5 1 (.slice A0 L.length c0) L.length (Lib.byteCells L) rfl ((HO3.out.drewN nq).alloc _) (by have := HB3.out.size; rw [World.size_alloc, World.heap_drewN]; omega) i0 _ 1 Tryd.underlying51 hi0 hz0 hz1 hz2 rfl (by omega) rfl _ _ 1 1 [.int .u8 32] rfl (reads_new (w3.drewN nq) 5 1 1 [.int .u8 32] rfl) (by simp [Value.oneCell']) (by have := HBD.out; simp only [maxLen]; omega) (by have := HBD.out; omega) ?_)
            intro v4 w4 hO4 hb4 hsz4
            obtain ⟨A4, c4, hv4, _, _⟩ := ownsRow_slice (hO4.at_ (i := 0) rfl)
            simp only at hv4
            subst hv4
            have HO4 := hide_ (hO4.at_ (i := 0) rfl)
            have HB4 := hide_ (((below_draws2 HB3.out nq).alloc (by have := HB3.out.size; rw [World.heap_drewN]; omega) _).trans hb4)
            have r2 : w4.cell? ⟨(ad.add (k * 3)).block, (ad.add (k * 3)).off + 2, none⟩ = some (.string T) := ((HB4.out.cell (p := ⟨(ad.add (k * 3)).block, (ad.add (k * 3)).off + 2, none⟩) hadw).trans ((HB.out.cell (p := ⟨(ad.add (k * 3)).block, (ad.add (k * 3)).off + 2, none⟩) hadw).symm)).trans HQ2.out
            have rs : (ad.add (k * 3)).block < w4.heap.size := Nat.lt_of_lt_of_le hadw HB4.out.size
            clear hO4 hb4 hsz4 p0 p2
            go_wp2_with (at_builtin; refine Lib.wpList_append_own_string w4 rfl (.tmp 84) (.tmp 89) 51 9 rfl w.heap.size 5 i0 Tryd.underlying51 Tryd.underlying9 hi0 hz0 hz1 hz2 (.slice A4 (L.length + 1) c4) (L.length + 1) (Lib.byteCells L ++ [.int .u8 32]) rfl HO4.out T rfl (by have := HBD.out; have := HTSZ.out; simp only [maxLen]; omega) (by have := HBD.out; have := HTSZ.out; omega) HB4.out.size ?_)
            intro v5 w5 hown5 hgr5 _
            obtain ⟨A5, c5, rfl, _, _⟩ := ownsRow_slice hown5
            have HO5 := hide_ (show w5.ownsRow w.heap.size 5 1 (.slice A5 (glueL tk (k + 1)).length c5) (glueL tk (k + 1)).length (Lib.byteCells (glueL tk (k + 1))) by
              rw [HN.out, Lib.byteCells_append, Lib.byteCells_append, List.length_append, List.length_append, ← Nat.add_assoc]
              exact hown5)
            have HLE := hide_ (show (glueL tk (k + 1)).length = L.length + 1 + T.size by rw [HN.out, List.length_append, List.length_append, ← Nat.add_assoc]; rfl)
            have HB5 := hide_ (HB4.out.grown hgr5 HB4.out.size (fun j hj => (HO4.out.lt j hj).1))
            clear hown5 hgr5
            go_wp2
            go_roundw
            case rel => first | exact ⟨k + 1, A5, c5, by omega, by go_num, by rw [HLE.out], hide_ (goodTo_succ HGT.out (by rw [← HT9.out]; exact HG.out)), HO5, HB5.out⟩ | ((repeat apply Exists.intro); exact ⟨⟨k + 1, A5, c5, by omega, by go_num, by rw [HLE.out], hide_ (goodTo_succ HGT.out (by rw [← HT9.out]; exact HG.out)), HO5, HB5.out⟩, rfl⟩)
            case measure => simp [intOf]; omega
      · have HXB := hide_ (HGB.out hg)
        clear HGB hg HPRV
        rcases hbad with ⟨p, er, hx, her⟩ | ⟨l, hx, hll⟩ | ⟨x, hx, hne⟩ | ⟨x, hx, heq, hne⟩
        · rw [hx] at HTK
          unfold ToksIs at HTK
          simp only [Option.getD_none, List.length_nil] at HTK
          have d1 : (er != 0) = true := bne_iff_ne.2 her
          clear hx her
          go_wp2_with fail
          refine HTK.out.mono ?_
          rintro e w3 ⟨v, rfl, hown, hb3⟩
          obtain ⟨A2, c2, rfl, _, _⟩ := ownsRow_slice hown
          have HB3 := hide_ (HB.out.trans (hb3.mono HSW.out))
          clear hown hb3 q2
          go_upto_region 8 with (fail)
          go_big_quiet (fail)
          go_wp2
          go_ret2
          exact ⟨by rw [HXB.out]; rfl, below_draws2 HB3.out _⟩
        · rw [hx] at HTK
          unfold ToksIs at HTK
          simp only [Option.getD_some] at HTK
          have d1 : ((l.length : Int) != 1) = true := bne_iff_ne.2 (by omega)
          clear hx hll
          go_wp2_with fail
          refine HTK.out.mono ?_
          rintro e w3 ⟨v, rfl, hown, hb3⟩
          obtain ⟨A2, c2, rfl, _, _⟩ := ownsRow_slice hown
          have HB3 := hide_ (HB.out.trans (hb3.mono HSW.out))
          clear hown hb3 q2
          go_upto_region 8 with (fail)
          go_big_quiet (fail)
          go_wp2
          go_ret2
          exact ⟨by rw [HXB.out]; rfl, below_draws2 HB3.out _⟩
        · obtain ⟨xk, xa, xe⟩ := x
          rw [hx] at HTK
          unfold ToksIs at HTK
          simp only [Option.getD_some, List.length_cons, List.length_nil] at HTK
          simp only at hne
          rw [show tkCells T [(xk, xa, xe)] = [.int .u8 xk, .int .i64 xa, .string (T.extract xa xe)] from rfl] at HTK
          have d1 : (xk != K) = true := bne_iff_ne.2 hne
          clear hx hne
          go_wp2_with fail
          refine HTK.out.mono ?_
          rintro e w3 ⟨v, rfl, hown, hb3⟩
          obtain ⟨g, cv, rfl⟩ := ownsRow_some hown (by decide)
          have hO := one_row (r := ⟨36, 3, .slice (some ⟨g, 0, none⟩) 1 cv, 1, [.int .u8 xk, .int .i64 xa, .string (T.extract xa xe)]⟩) hown
          have c0' := hO.cell (i := 0) (j := 0) rfl rfl
          have hg9 := (hO.base (i := 0) rfl).2
          have p0 := (hb3.cell (p := ad.add (k * 3)) hads).trans HQ0.out
          have hads3 : (ad.add (k * 3)).block < w3.heap.size := Nat.lt_of_lt_of_le hads hb3.size
          have HB3 := hide_ (HB.out.trans (hb3.mono HSW.out))
          clear hO hown hb3 q2
          go_upto_region 8 with (fail)
          go_big_quiet (fail)
          go_wp2
          go_ret2
          exact ⟨by rw [HXB.out]; rfl, below_draws2 HB3.out _⟩
        · obtain ⟨xk, xa, xe⟩ := x
          rw [hx] at HTK
          unfold ToksIs at HTK
          simp only [Option.getD_some, List.length_cons, List.length_nil] at HTK
          simp only at hne heq
          subst heq
          rw [show tkCells T [(xk, xa, xe)] = [.int .u8 xk, .int .i64 xa, .string (T.extract xa xe)] from rfl] at HTK
          obtain ⟨Y, hY⟩ : ∃ Y, Y = T.extract xa xe := ⟨_, rfl⟩
          rw [← hY] at HTK hne
          have d1 := toList_ne hne
          clear hx hne hY
          go_wp2_with fail
          refine HTK.out.mono ?_
          rintro e w3 ⟨v, rfl, hown, hb3⟩
          obtain ⟨g, cv, rfl⟩ := ownsRow_some hown (by decide)
          have hO := one_row (r := ⟨36, 3, .slice (some ⟨g, 0, none⟩) 1 cv, 1, [.int .u8 xk, .int .i64 xa, .string Y]⟩) hown
          have c0' := hO.cell (i := 0) (j := 0) rfl rfl
          have c2' := hO.cell (i := 0) (j := 2) rfl rfl
          have hg9 := (hO.base (i := 0) rfl).2
          have p0 := (hb3.cell (p := ad.add (k * 3)) hads).trans HQ0.out
          have p2 := (hb3.cell (p := ⟨(ad.add (k * 3)).block, (ad.add (k * 3)).off + 2, none⟩) hads).trans HQ2.out
          have hads3 : (ad.add (k * 3)).block < w3.heap.size := Nat.lt_of_lt_of_le hads hb3.size
          have HB3 := hide_ (HB.out.trans (hb3.mono HSW.out))
          clear hO hown hb3 q2
          go_upto_region 8 with (fail)
          go_big_quiet (fail)
          go_wp2
          go_ret2
          exact ⟨by rw [HXB.out]; rfl, below_draws2 HB3.out _⟩
    · obtain rfl : k = n := by omega
      have hX := HGOOD.out HGT.out
      clear hb
      obtain ⟨L, hL⟩ : ∃ L, L = glueL tk k := ⟨_, rfl⟩
      rw [← hL] at hX HOWN ⊢
      by_cases hbig : 524288 < L.length
      · have HX := hide_ (show X = (⟨#[]⟩, 15) by rw [hX, if_pos hbig])
        have dN : decide (524288 < (L.length : Int)) = true := decide_eq_true (by omega)
        clear hX hbig hL
        go_wp2
        go_ret2
        exact ⟨by rw [HX.out]; rfl, HB.out⟩
      · have HX := hide_ (show X = (⟨L.toArray⟩, 0) by rw [hX, if_neg hbig])
        have dN : decide (524288 < (L.length : Int)) = false := decide_eq_false (by omega)
        have hrd := Reads.of_own HOWN.out
        rw [bytes_u8s] at hrd
        have hcv := run_str_of_reads (P := Tryd.prog) wr _ 51 5 Tryd.underlying51 Tryd.underlying5 A0 L.length c0 (L.map fun b => (b.toNat : Int)) hrd 9 Tryd.underlying9
        rw [str_bytes] at hcv
        clear hX hbig hL hrd
        go_wp2
        go_ret2
        exact ⟨by rw [HX.out]; rfl, HB.out⟩
end Go.Proofs.YtmbofpeedjlfhaaDoor
/-
  The walk of the statement TextGlue.
-/
namespace Go.Proofs.YtmbofpeedjlfhaaDoor
open Go.RowKit Go.PlainAid Go.BigFrame
set_option linter.unusedVariables false
set_option linter.unusedSimpArgs false
set_option maxRecDepth 100000

theorem stand_len_ (s : ByteArray) : ∀ (l : List Tk) (i : Nat), Stand s i l → i + l.length ≤ s.size := by
  intro l
  induction l with
  | nil => intro i h; have := h.1; simp; omega
  | cons a l ih =>
    intro i h
    obtain ⟨h1, h2, h3, _, h5⟩ := h
    have := ih _ h5
    simp only [List.length_cons]
    omega
theorem mark_bad (sg : List ByteArray) (q i : Int) : goodB sg (mkTok q i) = false := by
  unfold goodB mkTok
  simp only
  rcases toksN_or ⟨#[]⟩ sg with ⟨l, hl, hst, hs⟩ | ⟨p, er, hl, _⟩
  · have := stand_len_ ⟨#[]⟩ l 0 hst
    have h0 : (⟨#[]⟩ : ByteArray).size = 0 := rfl
    obtain rfl : l = [] := List.eq_nil_of_length_eq_zero (by omega)
    rw [hl]
  · rw [hl]
theorem over_glue (sg : List ByteArray) (q : Int) (n : Nat) (h : signsOk sg = true) (hn : 0 < n) : glueN sg (marks3 q n) = (⟨#[]⟩, 17) :=
  glueN_bad sg _ h 0 (by rw [marks3_len]; exact hn) (by
    have : tokAt (marks3 q n) 0 = mkTok q (0 : Nat) := by unfold tokAt; rw [marks3_get _ _ _ hn]; rfl
    rw [this]; exact mark_bad sg _ _)
theorem over_same (sg : List ByteArray) (q : Int) (n : Nat) (tk : List TokV) (hl : tk.length = n) (h : ¬ (0 < n ∧ signsOk sg = true)) : glueN sg (marks3 q n) = glueN sg tk := by
  rcases Nat.eq_zero_or_pos n with rfl | hn
  · obtain rfl : tk = [] := List.eq_nil_of_length_eq_zero hl
    rfl
  · have hs : signsOk sg = false := by
      rw [← Bool.not_eq_true]
      exact fun hs => h ⟨hn, hs⟩
    rw [glueN_signs _ _ hs, glueN_signs _ _ hs]
theorem marks3_more (q : Int) (n : Nat) : ∀ m, ∃ Y, marks3 q (n + m) = marks3 q n ++ Y := by
  intro m
  induction m with
  | zero => exact ⟨[], by simp⟩
  | succ m ih =>
    obtain ⟨Y, hY⟩ := ih
    exact ⟨Y ++ [mkTok q ((n + m : Nat) : Int)], by rw [← Nat.add_assoc, marks3_succ, hY, List.append_assoc]⟩
theorem row_reads {W : World} {B i size g m c n : Nat} {e : TypeId} {X Y : List Value} {rs : List Ro} (hO : Owns W B rs) (h : rs[i]? = some ⟨e, size, .slice (some ⟨g, 0, none⟩) m c, m, X ++ Y⟩) (hX : X.length = n * size) : Reads W W.heap.size size (some ⟨g, 0, none⟩) n X := by
  refine ⟨hX, fun _ => ⟨_, rfl, (hO.base h).2, fun j u hu => ?_⟩⟩
  have e1 : (⟨g, 0, none⟩ : Addr).add j = ⟨g, j, none⟩ := by unfold Addr.add; split <;> simp_all
  rw [e1]
  refine hO.cell h ?_
  rw [List.getElem?_append_left (List.getElem?_eq_some_iff.1 hu).1]
  exact hu
def lentK (g n c : Nat) (X : List TokV) : Ro := ⟨36, 3, .slice (some ⟨g, 0, none⟩) n c, n, tCells X⟩
def lentS (g n c : Nat) (X : List ByteArray) : Ro := ⟨9, 1, .slice (some ⟨g, 0, none⟩) n c, n, strV X⟩
set_option maxHeartbeats 8000000 in
theorem TextGlue_walk (A : Option Addr) (n c : Nat) (As : Option Addr) (ns cs : Nat) (tk : List TokV) (sg : List ByteArray) (w : World) (hn : n ≤ 1048576) (hsz : ∀ k, (tokAt tk k).2.2.size ≤ 1048576) (hns16 : ns * 16 + 1024 ≤ 140737488355328) (hgz : ∀ g ∈ sg, g.size ≤ 140737488351232)
    (hr : Reads w w.heap.size 3 A n (tCells tk)) (hs : Reads w w.heap.size 1 As ns (strV sg)) :
    Calls Tryd.prog 5 #[.slice A n c, .slice As ns cs] w fun e w' => e = .returned (.bool true) ∧ Below w.heap.size w w' := by
  have hlen : tk.length = n := by have := hr.1; rw [tCells_len] at this; omega
  have hsl : sg.length = ns := by have := hs.1; simpa [strV] using this
  have hns : ns ≤ 140737488351232 := by omega
  have HR := hide_ hr
  have HS := hide_ hs
  have HLEN := hide_ hlen
  have HSL := hide_ hsl
  have HSZ := hide_ hsz
  have HGZ := hide_ hgz
  have HN := hide_ hn
  have HNS := hide_ hns
  have HN16 := hide_ hns16
  have HRG := rglue_any A n c As ns cs w.heap.size tk sg w hn hsz hns hgz hr hs (Nat.le_refl _)
  obtain ⟨W0, E0, hWE⟩ : ∃ W E, glueN sg tk = (W, E) := ⟨_, _, rfl⟩
  rw [hWE] at HRG
  simp only at HRG
  have HRG := hide_ HRG
  have HWE := hide_ hWE
  clear hr hlen hsz hs hsl hgz hWE
  go_enter Tryd.func5, Tryd.ntmps5
  go_wp2_with fail
  refine HRG.out.mono ?_
  rintro e w1 ⟨rfl, hb⟩
  have HB1 := hide_ hb
  clear hb HRG
  go_wp2_with fail
  refine (LentTokens_any A n c w.heap.size tk w1 HN.out (HR.out.below HB1.out) HB1.out.size).mono ?_
  rintro e w2 ⟨v, rfl, hown, hb⟩
  obtain ⟨g, cL, rfl⟩ := ownsRow_some hown (by omega)
  have hcL : n + 64 ≤ cL := by
    obtain ⟨_, _, hv, h9, _⟩ := ownsRow_slice hown
    injection hv with _ _ hv
    omega
  have hncL : n ≤ cL := by omega
  have HO2 : Hid (Owns w2 w.heap.size [lentK g (n + 64) cL (tk ++ marks3 0 64)]) := hide_ (Owns.nil_.push hb (r := lentK g (n + 64) cL (tk ++ marks3 0 64)) hown HB1.out.size)
  have HB2 := hide_ (HB1.out.trans (hb.mono HB1.out.size))
  clear hown hb hcL HB1
  go_wp2_with fail
  refine (LentTexts_any As ns cs w.heap.size sg w2 HN16.out (HS.out.below HB2.out) HB2.out.size).mono ?_
  rintro e w3 ⟨v, rfl, hown, hb⟩
  obtain ⟨gm, cM, rfl⟩ := ownsRow_some hown (by omega)
  have hcM : ns + 64 ≤ cM := by
    obtain ⟨_, _, hv, h9, _⟩ := ownsRow_slice hown
    injection hv with _ _ hv
    omega
  have hncM : ns ≤ cM := by omega
  have HO3 : Hid (Owns w3 w.heap.size [lentK g (n + 64) cL (tk ++ marks3 0 64), lentS gm (ns + 64) cM (sg ++ marksS 64)]) := hide_ (HO2.out.push hb (r := lentS gm (ns + 64) cM (sg ++ marksS 64)) hown HB2.out.size)
  have HB3 := hide_ (HB2.out.trans (hb.mono HB2.out.size))
  clear hown hb hcM HB2 HO2
  have HTG := hide_ (show ∀ W : World, Below w3.heap.size w3 W → Calls Tryd.prog 17 #[.slice (some ⟨g, 0, none⟩) n cL, .slice (some ⟨gm, 0, none⟩) ns cM] W fun e w' => e = .returned (.tuple #[.string W0, .int .i64 E0]) ∧ Below W.heap.size W w' from fun W hW => by
    have hOW := HO3.out.below hW
    have hX := row_reads (i := 0) (n := n) (X := tCells tk) (Y := tCells (marks3 0 64)) hOW (by rw [← tCells_app]; rfl) (by rw [tCells_len, HLEN.out])
    have hY := row_reads (i := 1) (n := ns) (X := strV sg) (Y := strV (marksS 64)) hOW (by rw [← strV_app]; rfl) (by unfold strV; rw [List.length_map, HSL.out, Nat.mul_one])
    have := tglue_any (some ⟨g, 0, none⟩) n cL (some ⟨gm, 0, none⟩) ns cM W.heap.size tk sg W HN.out HSZ.out HNS.out hncM hX hY (Nat.le_refl _)
    rw [HWE.out] at this
    exact this)
  go_upto_region 4 with (fail)
  go_region_with (go_at_call 17; refine (HTG.out _ (by first | exact Below.refl _ _ | exact (Below.refl _ _).drew)).mono ?_; rintro e w7 ⟨rfl, hb7⟩; have HB7 := hide_ hb7; clear hb7)
  have HO4 := hide_ (HO3.out.drew.below HB7.out)
  have HB4 := hide_ (HB3.out.drew.trans (HB7.out.mono HB3.out.size))
  have hE0 : (E0 != E0) = false := by simp
  clear HO3 HB3 HB7 HTG
  go_wp2_with fail
  refine (KeptTokens_any (some ⟨g, 0, none⟩) A n cL c w7.heap.size tk w7 HN.out (Reads.of_own (HO4.out.at_ (i := 0) rfl)) ((HR.out.below HB4.out).more HB4.out.size) (Nat.le_refl _)).mono ?_
  rintro e w8 ⟨rfl, hb⟩
  have HO5 := hide_ (HO4.out.below hb)
  have HB5 := hide_ (HB4.out.trans (hb.mono HB4.out.size))
  clear hb HO4 HB4
  go_wp2_with fail
  refine (KeptTexts_any (some ⟨gm, 0, none⟩) As ns cM cs w8.heap.size sg w8 HNS.out (Reads.of_own (HO5.out.at_ (i := 1) rfl)) ((HS.out.below HB5.out).more HB5.out.size) (Nat.le_refl _)).mono ?_
  rintro e w9 ⟨rfl, hb⟩
  have HO6 := hide_ (HO5.out.below hb)
  have HB6 := hide_ (HB5.out.trans (hb.mono HB5.out.size))
  clear hb HO5 HB5
  go_wp2_with fail
  refine (OverTokens_any g (n + 64) cL w.heap.size (tk ++ marks3 0 64) [lentS gm (ns + 64) cM (sg ++ marksS 64)] w9 (by have := HN.out; omega) (by rw [List.length_append, marks3_len, HLEN.out]) HO6.out HB6.out.size).mono ?_
  rintro e w10 ⟨rfl, hO, hb⟩
  have HO7 := hide_ hO
  have HB8 := hide_ (HB6.out.trans hb)
  clear hb hO HO6 HB6
  obtain ⟨W1, E1, hW1⟩ : ∃ W E, glueN sg (marks3 (-1) n) = (W, E) := ⟨_, _, rfl⟩
  have HW1 := hide_ hW1
  have HTG := hide_ (show ∀ W : World, Below w10.heap.size w10 W → Calls Tryd.prog 17 #[.slice (some ⟨g, 0, none⟩) n cL, .slice (some ⟨gm, 0, none⟩) ns cM] W fun e w' => e = .returned (.tuple #[.string W1, .int .i64 E1]) ∧ Below W.heap.size W w' from fun W hW => by
    obtain ⟨Y, hY⟩ := marks3_more (-1) n 64
    have hOW := HO7.out.below hW
    rw [hY] at hOW
    have hX := row_reads (i := 0) (n := n) (X := tCells (marks3 (-1) n)) (Y := tCells Y) hOW (by rw [← tCells_app]; rfl) (by rw [tCells_len, marks3_len])
    have hY := row_reads (i := 1) (n := ns) (X := strV sg) (Y := strV (marksS 64)) hOW (by rw [← strV_app]; rfl) (by unfold strV; rw [List.length_map, HSL.out, Nat.mul_one])
    have := tglue_any (some ⟨g, 0, none⟩) n cL (some ⟨gm, 0, none⟩) ns cM W.heap.size (marks3 (-1) n) sg W HN.out (fun k => by
      unfold tokAt
      rcases Nat.lt_or_ge k n with hk | hk
      · rw [marks3_get _ _ _ hk]; exact Nat.zero_le _
      · rw [List.getElem?_eq_none (by rw [marks3_len]; exact hk)]; exact Nat.zero_le _) HNS.out hncM hX hY (Nat.le_refl _)
    rw [HW1.out] at this
    exact this)
  clear hW1
  go_upto_region 8 with (fail)
  go_region_with (go_at_call 17; refine (HTG.out _ (by first | exact Below.refl _ _ | exact (Below.refl _ _).drew)).mono ?_; rintro e w11 ⟨rfl, hb7⟩; have HB7 := hide_ hb7; clear hb7)
  have HB9 := hide_ (HB8.out.drew.trans (HB7.out.mono HB8.out.size))
  clear HTG HB7 HO7 HB8
  by_cases hc : 0 < n
  · have z0 : decide ((0 : Int) < (n : Int)) = true := decide_eq_true (by omega)
    have z0' : decide (0 < n) = true := decide_eq_true hc
    have HSM := hide_ (SignsMay_any As ns cs w.heap.size sg w11 HNS.out HGZ.out (HS.out.below HB9.out) HB9.out.size)
    cases hsg : signsOk sg
    · have hsame := over_same sg (-1) n tk HLEN.out (by rw [hsg]; simp)
      rw [HW1.out, HWE.out] at hsame
      injection hsame with e1 e2
      subst e1 e2
      rw [hsg] at HSM
      have hE2 : (E1 == E1) = true := by simp
      clear hsg hc HW1 HWE
      go_wp2_with fail
      refine HSM.out.mono ?_
      rintro e w12 ⟨rfl, hd⟩
      have HB10 := hide_ (HB9.out.trans (hd.below _))
      clear hd HSM HB9
      go_wp2
      go_ret
      exact ⟨by simp, HB10.out⟩
    · have hbad := over_glue sg (-1) n hsg hc
      rw [HW1.out] at hbad
      injection hbad with e1 e2
      subst e1 e2
      rw [hsg] at HSM
      clear hsg hc HW1 HWE
      go_wp2_with fail
      refine HSM.out.mono ?_
      rintro e w12 ⟨rfl, hd⟩
      have HB10 := hide_ (HB9.out.trans (hd.below _))
      clear hd HSM HB9
      go_wp2
      go_ret
      exact ⟨by simp, HB10.out⟩
  · obtain rfl : n = 0 := by omega
    have hsame := over_same sg (-1) 0 tk HLEN.out (by simp)
    rw [HW1.out, HWE.out] at hsame
    injection hsame with e1 e2
    subst e1 e2
    have hE2 : (E1 == E1) = true := by simp
    clear hc HW1 HWE
    go_wp2
    go_ret
    exact ⟨by simp, HB9.out⟩
theorem TextGlue_raw {H : Type} {enc : TypeId × Value → H} {base : Nat} (v s : Value) (w : World) (hv : Value.okWide Tryd.prog w .any base 24 v) (_ : Seen enc Tryd.prog w true 24 v.cells.toList) (hb : SeenB enc Tryd.prog w true 24 v.cells.toList 1048576)
    (hv2 : Value.okWide Tryd.prog w .any base 22 s) (h2 : Seen enc Tryd.prog w true 22 s.cells.toList) (_ : SeenB enc Tryd.prog w true 22 s.cells.toList 1048576) :
    Calls Tryd.prog 5 #[v, s] w fun e w' => e = .returned (.bool true) ∧ Below w.heap.size w w' := by
  obtain ⟨A, n, c, tk, rfl, g1, g2, g3, g4⟩ := toks_arg hv hb
  obtain ⟨As, ns, cs, xs, rfl, h1, h2, h3, h4⟩ := strs_arg hv2 h2
  exact TextGlue_walk A n c As ns cs tk xs w g2 g4 (by omega) h4 g3 h3
end Go.Proofs.YtmbofpeedjlfhaaDoor
