/-
  An append that stays in its row or moves, of elements of several cells; rows by permutation.
-/
import Derived.Test.YtnkfjileaonemaaGreatDoorKit
namespace Go.Proofs.YtnkfjileaonemaaGreatDoor
set_option maxRecDepth 100000
open Go.RowKit
set_option linter.unusedVariables false

def rowsF (K : Nat) (r : Nat → Ro) : List Ro := (List.range K).map r
def updR (r : Nat → Ro) (k : Nat) (x : Ro) : Nat → Ro := fun j => if j = k then x else r j
theorem rowsF_len (K : Nat) (r : Nat → Ro) : (rowsF K r).length = K := by simp [rowsF]
theorem rowsF_get {K k : Nat} (r : Nat → Ro) (ex : List Ro) (hk : k < K) : (rowsF K r ++ ex)[k]? = some (r k) := by
  rw [List.getElem?_append_left (by rw [rowsF_len]; exact hk)]
  simp [rowsF, hk]
theorem rowsF_ex {K : Nat} (r : Nat → Ro) (x : Ro) (ex : List Ro) (j : Nat) : (rowsF K r ++ x :: ex)[K + j]? = (x :: ex)[j]? := by
  rw [List.getElem?_append_right (by rw [rowsF_len]; omega), rowsF_len, Nat.add_sub_cancel_left]
theorem rowsF_set {K k : Nat} (r : Nat → Ro) (ex : List Ro) (x : Ro) (hk : k < K) : (rowsF K r ++ ex).set k x = rowsF K (updR r k x) ++ ex := by
  rw [List.set_append_left _ _ (by rw [rowsF_len]; exact hk)]
  congr 1
  apply List.ext_getElem?
  intro j
  rw [List.getElem?_set]
  by_cases hj : k = j
  · subst hj
    simp [rowsF, updR, hk]
  · rw [if_neg hj]
    by_cases hjK : j < K
    · simp [rowsF, updR, hjK, Ne.symm hj]
    · simp [rowsF, hjK]
theorem rowsF_congr {K : Nat} {r s : Nat → Ro} (h : ∀ j, j < K → r j = s j) : rowsF K r = rowsF K s := by
  unfold rowsF
  exact List.map_congr_left (fun j hj => h j (List.mem_range.1 hj))

section
variable {P : Program} (w : World)
/-- where the new row lies -/
theorem run_append_split (base : Nat) (t ty e : TypeId) (i : TypeInfo) (z : Value) (bytes : Nat) (ht : P.underlying t = some (.slice e)) (hi : P.info? e = some i) (hz : i.zero = some z)
    (hsize : i.size = 1) (hby : i.bytes = bytes) (hzs : z.cells.size = 1)
    (v : Value) (n : Nat) (xs : List Value) (hown : w.ownsRow base e 1 v n xs)
    (B : Nat) (A : Option Addr) (m c : Nat) (news : List Value) (hr : Reads w B 1 A m news) (h1 : ∀ u ∈ news, u.oneCell' = true) (hm : 0 < m)
    (h63 : n + m ≤ maxLen) (hbytes : (n + m) * bytes ≤ 140737488355328) (hbase : base ≤ w.heap.size) :
    ∃ v' w', (Builtin.append_ #[t, t] ty #[v, .slice A m c]).run P w = .ok v' w' ∧ w'.ownsRow base e 1 v' (n + m) (xs ++ news) ∧ w.grownBy w' v.ownBlock ∧
      ((v'.ownBlock = v.ownBlock ∧ v.ownBlock ≠ none) ∨ (Below w.heap.size w w' ∧ w'.ownsRow w.heap.size e 1 v' (n + m) (xs ++ news))) := by
  obtain ⟨v', w', hrun, h2, h3, h4⟩ := run_append_any (P := P) w base t ty e i z 1 bytes ht hi hz hsize hby hzs (by omega) v n xs hown B A m c news hr h1 h63 hbytes hbase
  refine ⟨v', w', hrun, h2, h3, ?_⟩
  rcases hown.2 with ⟨rfl, hn⟩ | ⟨g, cap, cur, rfl, hg0, hg, hnc, hcm, hcs, htake⟩
  · subst hn
    have hxs : xs = [] := List.eq_nil_of_length_eq_zero (by simpa using hown.1)
    subst hxs
    obtain ⟨v2, w2, hrun2, k2, k3, _⟩ := run_append_any (P := P) w w.heap.size t ty e i z 1 bytes ht hi hz hsize hby hzs (by omega) _ 0 [] (World.ownsRow_nil _ _ _ _) B A m c news hr h1 h63 hbytes (Nat.le_refl _)
    rw [hrun] at hrun2
    injection hrun2 with e1 e2
    subst e1 e2
    exact .inr ⟨(Below.refl _ w).grown k3 (Nat.le_refl _) (fun k e => by cases e), k2⟩
  · obtain ⟨ad, rfl, hadB, hcells⟩ := hr.2 hm
    have hl := hr.1
    by_cases hroom : n + m ≤ cap
    · have hrun2 := run_append_room (P := P) w t ty e i ht hi g n cap cur hg ad m c news (by rw [hsize]; exact hl) hcells h1 hroom (by rw [hsize, hl, hcs]; omega)
      rw [hrun] at hrun2
      injection hrun2 with e1 e2
      subst e1
      exact .inl ⟨rfl, by simp [Value.ownBlock]⟩
    · have hmx : n + m ≤ 9223372036854775807 := by simp only [maxLen] at h63; omega
      have hrun2 := run_append_grow (P := P) w t ty e i z ht hi hz ⟨g, 0, none⟩ n cap xs (by rw [hsize]; exact hown.1) (hown.cells (g := g) rfl) ad m c news (by rw [hsize]; exact hl) hcells (by omega) (by omega) (growslice_fits (by omega) (by rw [hby]; exact hbytes))
      rw [hrun] at hrun2
      injection hrun2 with e1 e2
      subst e1 e2
      refine .inr ⟨(Below.refl _ w).drew.alloc (Nat.le_refl _) _, ?_⟩
      obtain ⟨k1, k2⟩ := h2
      refine ⟨k1, ?_⟩
      rcases k2 with ⟨h5, _⟩ | ⟨g', cap', cur', hv, _, hrest⟩
      · cases h5
      · injection hv with hv1 hv2 hv3
        injection hv1 with hv1
        injection hv1 with hv1
        subst hv1 hv3
        exact .inr ⟨_, _, cur', rfl, Nat.le_refl _, hrest⟩
end
theorem set_perm {α : Type} (l : List α) : ∀ (k : Nat) (x y : α), l[k]? = some y → (l ++ [x]).Perm (l.set k x ++ [y]) := by
  induction l with
  | nil => intro k x y h; simp at h
  | cons a l ih =>
    intro k x y h
    cases k with
    | zero =>
      simp only [List.getElem?_cons_zero, Option.some.injEq] at h
      subst h
      simp only [List.set_cons_zero, List.cons_append]
      exact (List.perm_append_comm (l₁ := a :: l) (l₂ := [x])).trans ((List.Perm.cons x (List.perm_append_comm (l₁ := [a]) (l₂ := l))))
    | succ k =>
      simp only [List.getElem?_cons_succ] at h
      simp only [List.set_cons_succ, List.cons_append]
      exact (ih k x y h).cons a
theorem wpList_append_split {P : Program} (w : World) {ops : Array Oper} {rest : List Oper} {o : Oper} {a : Act} {Q : Exit → Act → World → Prop} (hgd : o.guard = none) (s x : Operand) (t : TypeId)
    (ho : o.op = .call { callee := .builtin .append, args := #[s, x], argTypes := #[t, t] })
    (B : Nat) (rs : List Ro) (k : Nat) (e : TypeId) (v : Value) (n : Nat) (xs : List Value) (hr : rs[k]? = some ⟨e, 1, v, n, xs⟩) (hO : Owns w B rs) (hB : B ≤ w.heap.size)
    (i : TypeInfo) (z : Value) (bytes : Nat) (ht : P.underlying t = some (.slice e)) (hi : P.info? e = some i) (hz : i.zero = some z)
    (hsize : i.size = 1) (hby : i.bytes = bytes) (hzs : z.cells.size = 1)
    (hs : a.eval s = v)
    (B' : Nat) (A : Option Addr) (m c : Nat) (news : List Value) (hx : a.eval x = .slice A m c) (hn : Reads w B' 1 A m news) (h1 : ∀ u ∈ news, u.oneCell' = true) (hm : 0 < m)
    (h63 : n + m ≤ maxLen) (hbytes : (n + m) * bytes ≤ 140737488355328)
    (h : ∀ v' w', ((v'.ownBlock = v.ownBlock ∧ Owns w' B (rs.set k ⟨e, 1, v', n + m, xs ++ news⟩)) ∨ Owns w' B (rs.set k ⟨e, 1, v', n + m, xs ++ news⟩ ++ [⟨e, 1, v, n, xs⟩])) → Below B w w' → w.heap.size ≤ w'.heap.size → wpList P ops Q rest (a.put o.dst v') w') : wpList P ops Q (o :: rest) a w := by
  refine wpList_plain hgd fun K hK => ?_
  obtain ⟨v', w', hrun, hown, hg, hat⟩ := run_append_split (P := P) w B t o.type e i z bytes ht hi hz hsize hby hzs v n xs (hO.at_ hr) B' A m c news hn h1 hm h63 hbytes hB
  unfold Oper.wp execOp
  simp only [ho, resolve, invoke, builtin, Sem.run_bind, Sem.run_pure, Result.andThen_ok, List.map_toArray, List.map_cons, List.map_nil, hs, hx, hrun]
  refine hK _ _ (h v' w' ?_ ((Below.refl _ _).grown hg hB (fun j hj => (hO.lt_ (List.mem_of_getElem? hr) hj).1)) hg.size)
  rcases hat with ⟨h2, _⟩ | ⟨h2, h3⟩
  · exact .inl ⟨h2, hO.turn hr hg hown (.inl h2)⟩
  · exact .inr ((hO.push h2 (r := ⟨e, 1, v', n + m, xs ++ news⟩) h3 hB).swap (set_perm rs k _ _ hr))
end Go.Proofs.YtnkfjileaonemaaGreatDoor
namespace Go.Proofs.YtnkfjileaonemaaGreatDoor
set_option maxRecDepth 100000
open Go.RowKit
set_option linter.unusedVariables false

section
variable {P : Program} (w : World)
/-- where the new row lies -/
theorem run_append_splitK (base : Nat) (t ty e : TypeId) (i : TypeInfo) (z : Value) (size bytes : Nat) (hsz : 0 < size) (ht : P.underlying t = some (.slice e)) (hi : P.info? e = some i) (hz : i.zero = some z)
    (hsize : i.size = size) (hby : i.bytes = bytes) (hzs : z.cells.size = size)
    (v : Value) (n : Nat) (xs : List Value) (hown : w.ownsRow base e size v n xs)
    (B : Nat) (A : Option Addr) (m c : Nat) (news : List Value) (hr : Reads w B size A m news) (h1 : ∀ u ∈ news, u.oneCell' = true) (hm : 0 < m)
    (h63 : n + m ≤ maxLen) (hbytes : (n + m) * bytes ≤ 140737488355328) (hbase : base ≤ w.heap.size) :
    ∃ v' w', (Builtin.append_ #[t, t] ty #[v, .slice A m c]).run P w = .ok v' w' ∧ w'.ownsRow base e size v' (n + m) (xs ++ news) ∧ w.grownBy w' v.ownBlock ∧
      ((v'.ownBlock = v.ownBlock ∧ v.ownBlock ≠ none) ∨ (Below w.heap.size w w' ∧ w'.ownsRow w.heap.size e size v' (n + m) (xs ++ news))) := by
  obtain ⟨v', w', hrun, h2, h3, h4⟩ := run_append_any (P := P) w base t ty e i z size bytes ht hi hz hsize hby hzs hsz v n xs hown B A m c news hr h1 h63 hbytes hbase
  refine ⟨v', w', hrun, h2, h3, ?_⟩
  rcases hown.2 with ⟨rfl, hn⟩ | ⟨g, cap, cur, rfl, hg0, hg, hnc, hcm, hcs, htake⟩
  · subst hn
    have hxs : xs = [] := List.eq_nil_of_length_eq_zero (by simpa using hown.1)
    subst hxs
    obtain ⟨v2, w2, hrun2, k2, k3, _⟩ := run_append_any (P := P) w w.heap.size t ty e i z size bytes ht hi hz hsize hby hzs hsz _ 0 [] (World.ownsRow_nil _ _ _ _) B A m c news hr h1 h63 hbytes (Nat.le_refl _)
    rw [hrun] at hrun2
    injection hrun2 with e1 e2
    subst e1 e2
    exact .inr ⟨(Below.refl _ w).grown k3 (Nat.le_refl _) (fun k e => by cases e), k2⟩
  · obtain ⟨ad, rfl, hadB, hcells⟩ := hr.2 hm
    have hl := hr.1
    by_cases hroom : n + m ≤ cap
    · have hrun2 := run_append_room (P := P) w t ty e i ht hi g n cap cur hg ad m c news (by rw [hsize]; exact hl) hcells h1 hroom (by rw [hsize, hl, hcs, ← Nat.add_mul]; exact Nat.mul_le_mul_right _ hroom)
      rw [hrun] at hrun2
      injection hrun2 with e1 e2
      subst e1
      exact .inl ⟨rfl, by simp [Value.ownBlock]⟩
    · have hmx : n + m ≤ 9223372036854775807 := by simp only [maxLen] at h63; omega
      have hrun2 := run_append_grow (P := P) w t ty e i z ht hi hz ⟨g, 0, none⟩ n cap xs (by rw [hsize]; exact hown.1) (hown.cells (g := g) rfl) ad m c news (by rw [hsize]; exact hl) hcells (by omega) (by omega) (growslice_fits (by omega) (by rw [hby]; exact hbytes))
      rw [hrun] at hrun2
      injection hrun2 with e1 e2
      subst e1 e2
      refine .inr ⟨(Below.refl _ w).drew.alloc (Nat.le_refl _) _, ?_⟩
      obtain ⟨k1, k2⟩ := h2
      refine ⟨k1, ?_⟩
      rcases k2 with ⟨h5, _⟩ | ⟨g', cap', cur', hv, _, hrest⟩
      · cases h5
      · injection hv with hv1 hv2 hv3
        injection hv1 with hv1
        injection hv1 with hv1
        subst hv1 hv3
        exact .inr ⟨_, _, cur', rfl, Nat.le_refl _, hrest⟩
end
theorem wpList_append_splitK {P : Program} (w : World) {ops : Array Oper} {rest : List Oper} {o : Oper} {a : Act} {Q : Exit → Act → World → Prop} (hgd : o.guard = none) (s x : Operand) (t : TypeId)
    (ho : o.op = .call { callee := .builtin .append, args := #[s, x], argTypes := #[t, t] })
    (B : Nat) (rs : List Ro) (k : Nat) (e : TypeId) (size : Nat) (v : Value) (n : Nat) (xs : List Value) (hr : rs[k]? = some ⟨e, size, v, n, xs⟩) (hO : Owns w B rs) (hB : B ≤ w.heap.size)
    (i : TypeInfo) (z : Value) (bytes : Nat) (hsz : 0 < size) (ht : P.underlying t = some (.slice e)) (hi : P.info? e = some i) (hz : i.zero = some z)
    (hsize : i.size = size) (hby : i.bytes = bytes) (hzs : z.cells.size = size)
    (hs : a.eval s = v)
    (B' : Nat) (A : Option Addr) (m c : Nat) (news : List Value) (hx : a.eval x = .slice A m c) (hn : Reads w B' size A m news) (h1 : ∀ u ∈ news, u.oneCell' = true) (hm : 0 < m)
    (h63 : n + m ≤ maxLen) (hbytes : (n + m) * bytes ≤ 140737488355328)
    (h : ∀ v' w', ((v'.ownBlock = v.ownBlock ∧ Owns w' B (rs.set k ⟨e, size, v', n + m, xs ++ news⟩)) ∨ Owns w' B (rs.set k ⟨e, size, v', n + m, xs ++ news⟩ ++ [⟨e, size, v, n, xs⟩])) → Below B w w' → w.heap.size ≤ w'.heap.size → wpList P ops Q rest (a.put o.dst v') w') : wpList P ops Q (o :: rest) a w := by
  refine wpList_plain hgd fun K hK => ?_
  obtain ⟨v', w', hrun, hown, hg, hat⟩ := run_append_splitK (P := P) w B t o.type e i z size bytes hsz ht hi hz hsize hby hzs v n xs (hO.at_ hr) B' A m c news hn h1 hm h63 hbytes hB
  unfold Oper.wp execOp
  simp only [ho, resolve, invoke, builtin, Sem.run_bind, Sem.run_pure, Result.andThen_ok, List.map_toArray, List.map_cons, List.map_nil, hs, hx, hrun]
  refine hK _ _ (h v' w' ?_ ((Below.refl _ _).grown hg hB (fun j hj => (hO.lt_ (List.mem_of_getElem? hr) hj).1)) hg.size)
  rcases hat with ⟨h2, _⟩ | ⟨h2, h3⟩
  · exact .inl ⟨h2, hO.turn hr hg hown (.inl h2)⟩
  · exact .inr ((hO.push h2 (r := ⟨e, size, v', n + m, xs ++ news⟩) h3 hB).swap (set_perm rs k _ _ hr))
theorem Owns.nilrow {w : World} {B : Nat} {rs : List Ro} (h : Owns w B rs) (e : TypeId) (size : Nat) : Owns w B (rs ++ [⟨e, size, .slice none 0 0, 0, []⟩]) := by
  refine ⟨fun r hr => ?_, ?_⟩
  · rcases List.mem_append.1 hr with hr | hr
    · exact h.1 r hr
    · rw [List.mem_singleton.1 hr]
      exact World.ownsRow_nil _ _ _ _
  · rw [List.pairwise_append]
    refine ⟨h.2, List.pairwise_singleton _ _, fun r _ s hs => ?_⟩
    rw [List.mem_singleton.1 hs]
    cases hv : r.v.ownBlock with
    | none => exact .inl rfl
    | some k => right; simp [Value.ownBlock]
theorem Owns.pick {w : World} {B : Nat} {l m : List Ro} (h : Owns w B l) (d : List Ro)
    (hc : ∀ (cnt : List Ro → Nat) (one : Ro → Nat), (∀ x y, cnt (x ++ y) = cnt x + cnt y) → (∀ x l, cnt (x :: l) = one x + cnt l) → cnt [] = 0 → cnt l = cnt d + cnt m) : Owns w B m := by
  classical
  have hp : l.Perm (d ++ m) := List.perm_iff_count.2 fun a => by
    rw [List.count_append]
    exact hc (fun l => List.count a l) (fun x => if x == a then 1 else 0) (fun x y => List.count_append) (fun x l => by rw [List.count_cons]; omega) rfl
  exact (h.swap hp).sub (List.sublist_append_right _ _)
theorem Owns.perm {w : World} {B : Nat} {l m : List Ro} (h : Owns w B l)
    (hc : ∀ (cnt : List Ro → Nat) (one : Ro → Nat), (∀ x y, cnt (x ++ y) = cnt x + cnt y) → (∀ x l, cnt (x :: l) = one x + cnt l) → cnt [] = 0 → cnt l = cnt m) : Owns w B m :=
  h.pick [] fun cnt one h1 h2 h3 => by rw [h3, hc cnt one h1 h2 h3]; omega
end Go.Proofs.YtnkfjileaonemaaGreatDoor
