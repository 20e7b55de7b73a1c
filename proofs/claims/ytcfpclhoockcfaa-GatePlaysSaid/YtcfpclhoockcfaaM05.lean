/-
  An append that stays in its row or moves, of elements of several cells; rows by permutation.
-/
import Derived.Test.YtcfpclhoockcfaaM04
import Derived.PlainAid
namespace Go.Proofs.Ytcfpclhoockcfaa
open Go.RowKit
set_option linter.unusedVariables false
section
variable {P : Program} (w : World)
theorem run_append_splitK (base : Nat) (t ty e : TypeId) (i : TypeInfo) (z : Value) (size bytes : Nat) (hsz : 0 < size) (ht : P.underlying t = some (.slice e)) (hi : P.info? e = some i) (hz : i.zero = some z)
    (hsize : i.size = size) (hby : i.bytes = bytes) (hzs : z.cells.size = size)
    (v : Value) (n : Nat) (xs : List Value) (hown : w.ownsRow base e size v n xs)
    (B : Nat) (A : Option Addr) (m c : Nat) (news : List Value) (hr : Reads w B size A m news) (h1 : ∀ u ∈ news, u.oneCell' = true) (hm : 0 < m)
    (h63 : n + m ≤ maxLen) (hbytes : (n + m) * bytes ≤ 140737488355328) (hbase : base ≤ w.heap.size) :
    ∃ v' w', (Builtin.append_ #[t, t] ty #[v, .slice A m c]).run P w = .ok v' w' ∧ w'.ownsRow base e size v' (n + m) (xs ++ news) ∧ w.grownBy w' v.ownBlock ∧
      ((v'.ownBlock = v.ownBlock ∧ v.ownBlock ≠ none) ∨ (Below w.heap.size w w' ∧ w'.ownsRow w.heap.size e size v' (n + m) (xs ++ news))) := by
  obtain ⟨v', w', hrun, h2, h3, h4⟩ := run_append_any (P := P) w base t ty e i z size bytes ht hi hz hsize hby hzs hsz v n xs hown B A m c news hr h1 h63 hbytes hbase
  refine ⟨v', w', hrun, h2, h3, ?_⟩
  rcases hown.2 with ⟨rfl, hn⟩ | ⟨g, cap, cur, rfl, hg0, hg, hnc, hcm, hcs, htake⟩
  · subst hn
    have hxs : xs = [] := List.eq_nil_of_length_eq_zero (by simpa using hown.1)
    subst hxs
    obtain ⟨v2, w2, hrun2, k2, k3, _⟩ := run_append_any (P := P) w w.heap.size t ty e i z size bytes ht hi hz hsize hby hzs hsz _ 0 [] (World.ownsRow_nil _ _ _ _) B A m c news hr h1 h63 hbytes (Nat.le_refl _)
    rw [hrun] at hrun2
    injection hrun2 with e1 e2
    subst e1 e2
    exact .inr ⟨(Below.refl _ w).grown k3 (Nat.le_refl _) (fun k e => by cases e), k2⟩
  · obtain ⟨ad, rfl, hadB, hcells⟩ := hr.2 hm
    have hl := hr.1
    by_cases hroom : n + m ≤ cap
    · have hrun2 := run_append_room (P := P) w t ty e i ht hi g n cap cur hg ad m c news (by rw [hsize]; exact hl) hcells h1 hroom (by rw [hsize, hl, hcs, ← Nat.add_mul]; exact Nat.mul_le_mul_right _ hroom)
      rw [hrun] at hrun2
      injection hrun2 with e1 e2
      subst e1
      exact .inl ⟨rfl, by simp [Value.ownBlock]⟩
    · have hmx : n + m ≤ 9223372036854775807 := by simp only [maxLen] at h63; omega
      have hrun2 := run_append_grow (P := P) w t ty e i z ht hi hz ⟨g, 0, none⟩ n cap xs (by rw [hsize]; exact hown.1) (hown.cells (g := g) rfl) ad m c news (by rw [hsize]; exact hl) hcells (by omega) (by omega) (growslice_fits (by omega) (by rw [hby]; exact hbytes))
      rw [hrun] at hrun2
      injection hrun2 with e1 e2
      subst e1 e2
      refine .inr ⟨(Below.refl _ w).drew.alloc (Nat.le_refl _) _, ?_⟩
      obtain ⟨k1, k2⟩ := h2
      refine ⟨k1, ?_⟩
      rcases k2 with ⟨h5, _⟩ | ⟨g', cap', cur', hv, _, hrest⟩
      · cases h5
      · injection hv with hv1 hv2 hv3
        injection hv1 with hv1
        injection hv1 with hv1
        subst hv1 hv3
        exact .inr ⟨_, _, cur', rfl, Nat.le_refl _, hrest⟩
end
theorem wpList_append_splitK {P : Program} (w : World) {ops : Array Oper} {rest : List Oper} {o : Oper} {a : Act} {Q : Exit → Act → World → Prop} (hgd : o.guard = none) (s x : Operand) (t : TypeId)
    (ho : o.op = .call { callee := .builtin .append, args := #[s, x], argTypes := #[t, t] })
    (B : Nat) (rs : List Ro) (k : Nat) (e : TypeId) (size : Nat) (v : Value) (n : Nat) (xs : List Value) (hr : rs[k]? = some ⟨e, size, v, n, xs⟩) (hO : Owns w B rs) (hB : B ≤ w.heap.size)
    (i : TypeInfo) (z : Value) (bytes : Nat) (hsz : 0 < size) (ht : P.underlying t = some (.slice e)) (hi : P.info? e = some i) (hz : i.zero = some z)
    (hsize : i.size = size) (hby : i.bytes = bytes) (hzs : z.cells.size = size)
    (hs : a.eval s = v)
    (B' : Nat) (A : Option Addr) (m c : Nat) (news : List Value) (hx : a.eval x = .slice A m c) (hn : Reads w B' size A m news) (h1 : ∀ u ∈ news, u.oneCell' = true) (hm : 0 < m)
    (h63 : n + m ≤ maxLen) (hbytes : (n + m) * bytes ≤ 140737488355328)
    (h : ∀ v' w', ((v'.ownBlock = v.ownBlock ∧ Owns w' B (rs.set k ⟨e, size, v', n + m, xs ++ news⟩)) ∨ Owns w' B (rs.set k ⟨e, size, v', n + m, xs ++ news⟩ ++ [⟨e, size, v, n, xs⟩])) → Below B w w' → w.heap.size ≤ w'.heap.size → wpList P ops Q rest (a.put o.dst v') w') : wpList P ops Q (o :: rest) a w := by
  refine wpList_plain hgd fun K hK => ?_
  obtain ⟨v', w', hrun, hown, hg, hat⟩ := run_append_splitK (P := P) w B t o.type e i z size bytes hsz ht hi hz hsize hby hzs v n xs (hO.at_ hr) B' A m c news hn h1 hm h63 hbytes hB
  unfold Oper.wp execOp
  simp only [ho, resolve, invoke, builtin, Sem.run_bind, Sem.run_pure, Result.andThen_ok, List.map_toArray, List.map_cons, List.map_nil, hs, hx, hrun]
  refine hK _ _ (h v' w' ?_ ((Below.refl _ _).grown hg hB (fun j hj => (hO.lt_ (List.mem_of_getElem? hr) hj).1)) hg.size)
  rcases hat with ⟨h2, _⟩ | ⟨h2, h3⟩
  · exact .inl ⟨h2, hO.turn hr hg hown (.inl h2)⟩
  · exact .inr ((hO.push h2 (r := ⟨e, size, v', n + m, xs ++ news⟩) h3 hB).swap (set_perm rs k _ _ hr))
theorem Owns.pick {w : World} {B : Nat} {l m : List Ro} (h : Owns w B l) (d : List Ro)
    (hc : ∀ (cnt : List Ro → Nat) (one : Ro → Nat), (∀ x y, cnt (x ++ y) = cnt x + cnt y) → (∀ x l, cnt (x :: l) = one x + cnt l) → cnt [] = 0 → cnt l = cnt d + cnt m) : Owns w B m := by
  classical
  have hp : l.Perm (d ++ m) := List.perm_iff_count.2 fun a => by
    rw [List.count_append]
    exact hc (fun l => List.count a l) (fun x => if x == a then 1 else 0) (fun x y => List.count_append) (fun x l => by rw [List.count_cons]; omega) rfl
  exact (h.swap hp).sub (List.sublist_append_right _ _)
theorem Owns.perm {w : World} {B : Nat} {l m : List Ro} (h : Owns w B l)
    (hc : ∀ (cnt : List Ro → Nat) (one : Ro → Nat), (∀ x y, cnt (x ++ y) = cnt x + cnt y) → (∀ x l, cnt (x :: l) = one x + cnt l) → cnt [] = 0 → cnt l = cnt m) : Owns w B m :=
  h.pick [] fun cnt one h1 h2 h3 => by rw [h3, hc cnt one h1 h2 h3]; omega
end Go.Proofs.Ytcfpclhoockcfaa
/-
  Lists of elements of several cells: where a cell stands.
-/
namespace Go.Proofs.Ytcfpclhoockcfaa
open Go.RowKit Go.PlainAid
set_option linter.unusedVariables false
section
variable {α : Type} {enc : α → List Value} {K : Nat}
theorem enc_len (hK : ∀ a, (enc a).length = K) (l : List α) : (l.flatMap enc).length = l.length * K := by
  induction l with
  | nil => simp
  | cons a l ih => rw [List.flatMap_cons, List.length_append, ih, hK, List.length_cons, Nat.succ_mul, Nat.add_comm]
theorem enc_get (hK : ∀ a, (enc a).length = K) : ∀ (l : List α) (k : Nat) (a : α), l[k]? = some a → ∀ j u, (enc a)[j]? = some u → (l.flatMap enc)[k * K + j]? = some u
  | [], _, _, h, _, _, _ => by simp at h
  | b :: l, 0, a, h, j, u, hu => by
    have e : b = a := by simpa using h
    subst e
    rw [List.flatMap_cons, Nat.zero_mul, Nat.zero_add, List.getElem?_append_left (List.getElem?_eq_some_iff.1 hu).1]
    exact hu
  | b :: l, k + 1, a, h, j, u, hu => by
    have e : (k + 1) * K + j - (enc b).length = k * K + j := by rw [hK, Nat.succ_mul]; omega
    rw [List.flatMap_cons, List.getElem?_append_right (by rw [hK, Nat.succ_mul]; omega), e]
    exact enc_get hK l k a (by simpa using h) j u hu
/-- the cells of an element -/
theorem el_cells (hK : ∀ a, (enc a).length = K) {W : World} {B n : Nat} {A : Option Addr} {l : List α} (hr : Reads W B K A n (l.flatMap enc)) (hp : 0 < K) {k : Nat} {a : α} (h : l[k]? = some a) :
    k < n ∧ ∃ ad, A = some ad ∧ (ad.add (k * K)).block < B ∧ (∀ u, (enc a)[0]? = some u → W.cell? (ad.add (k * K)) = some u) ∧ ∀ j u, 0 < j → (enc a)[j]? = some u → W.cell? ⟨(ad.add (k * K)).block, (ad.add (k * K)).off + j, none⟩ = some u := by
  have hk : k < l.length := (List.getElem?_eq_some_iff.1 h).1
  have hn : l.length = n := by
    have := hr.1
    rw [enc_len hK] at this
    exact Nat.eq_of_mul_eq_mul_right hp this
  obtain ⟨ad, e, hb, hc⟩ := hr.2 (by omega)
  refine ⟨by omega, ad, e, by rw [block_of_add]; exact hb, fun u hu => ?_, fun j u hj hu => ?_⟩
  · have := hc _ u (enc_get hK l k a h 0 u hu)
    simpa using this
  · have := hc _ u (enc_get hK l k a h j u hu)
    rw [← add_of_add] at this
    have key : (ad.add (k * K)).add j = ⟨(ad.add (k * K)).block, (ad.add (k * K)).off + j, none⟩ := by
      generalize ad.add (k * K) = p
      unfold Addr.add
      rw [if_neg (by omega)]
    rw [key] at this
    exact this
end
end Go.Proofs.Ytcfpclhoockcfaa
/-
  The kit's Apart.. walks, in general: lists of elements of S cells as rows; the marks.
-/
namespace Go.Proofs.Ytcfpclhoockcfaa
open Go.RowKit Go.PlainAid
set_option linter.unusedVariables false
set_option linter.unusedSimpArgs false
section
variable {α : Type} (enc : α → List Value) (S : Nat) (E L : TypeId) (mk : Int → Int → α)
def marks3 (k : Int) (n : Nat) : List α := (List.range n).map fun i => mk k (i : Nat)
/-- a row of elements -/
def rowB (vs : Nat → Value) (ns : Nat → Nat) (fs : Nat → List α) (j : Nat) : Ro := ⟨E, S, vs j, ns j, (fs j).flatMap enc⟩
def updF (f : Nat → List α) (k : Nat) (x : List α) : Nat → List α := fun j => if j = k then x else f j
/-- the lists, the first k of them marked -/
def markF (ns : Nat → Nat) (fs : Nat → List α) (k : Nat) : Nat → List α := fun j => if j < k then marks3 mk ((j : Int) + 1) (ns j) else fs j
def lsRow (AL : Option Addr) (K cL : Nat) (vs : Nat → Value) : Ro := ⟨L, 1, .slice AL K cL, K, (List.range K).map vs⟩
def mkU (j n : Nat) : List Value := (marks3 mk ((j : Int) + 1) n).flatMap enc
/-- some row holds what stood there -/
def OldOk (rs : List Ro) (v : Value) (ys : List Value) : Prop := ∃ r ∈ rs, r.e = E ∧ r.size = S ∧ r.v.ownBlock = v.ownBlock ∧ ys <+: r.xs
def gsRow (v : Value) (k : Nat) (r : Nat → Ro) : Ro := ⟨L, 1, v, k, (List.range k).map fun j => (r j).v⟩
/-- the rows while the first k lists are grown, the next one by i -/
def Pat (K : Nat) (vs : Nat → Value) (ns : Nat → Nat) (r : Nat → Ro) (k i : Nat) : Prop :=
  ∀ j, j < K → r j = ⟨E, S, (r j).v, ns j + (if j < k then 64 else if j = k then i else 0), mkU enc mk j (ns j + (if j < k then 64 else if j = k then i else 0))⟩ ∧ (k < j ∨ (k = j ∧ i = 0) → (r j).v = vs j)
end
section
variable {α : Type} {enc : α → List Value} {S : Nat} {E L : TypeId} {mk : Int → Int → α}
theorem marks3_succ (k : Int) (n : Nat) : marks3 mk k (n + 1) = marks3 mk k n ++ [mk k (n : Nat)] := by simp [marks3, List.range_succ]
theorem marks3_len (k : Int) (n : Nat) : (marks3 mk k n).length = n := by simp [marks3]
theorem mkU_succ (j n : Nat) : mkU enc mk j (n + 1) = mkU enc mk j n ++ enc (mk ((j : Int) + 1) n) := by unfold mkU; rw [marks3_succ]; simp
theorem mkU_get (hS : ∀ a, (enc a).length = S) (j n i q : Nat) (h : i < n) {u : Value} (hu : (enc (mk ((j : Int) + 1) i))[q]? = some u) : (mkU enc mk j n)[i * S + q]? = some u := by
  unfold mkU
  exact enc_get hS _ i (mk ((j : Int) + 1) i) (by simp [marks3, h]) q u hu
theorem enc_set1 : ∀ (X : List α) (j : Nat) (m : α) (a : Value), (∀ x, (enc x).length = 1) → enc m = [a] → (X.flatMap enc).set j a = (X.set j m).flatMap enc
  | [], j, m, a, _, _ => by simp
  | x :: X, j, m, a, hS, e => by
    obtain ⟨p, hp⟩ : ∃ p, enc x = [p] := List.length_eq_one_iff.1 (hS x)
    rw [List.flatMap_cons, hp]
    cases j with
    | zero => simp [e]
    | succ j =>
      rw [List.set_cons_succ, List.flatMap_cons, hp, ← enc_set1 X j m a hS e]
      rfl
theorem enc_set2 : ∀ (X : List α) (j : Nat) (m : α) (a b : Value), (∀ x, (enc x).length = 2) → enc m = [a, b] → ((X.flatMap enc).set (j * 2) a).set (j * 2 + 1) b = (X.set j m).flatMap enc
  | [], j, m, a, b, _, _ => by simp
  | x :: X, j, m, a, b, hS, e => by
    obtain ⟨p, q, hp⟩ : ∃ p q, enc x = [p, q] := by
      have h := hS x
      revert h
      generalize enc x = l
      intro h
      match l, h with
      | [p, q], _ => exact ⟨p, q, rfl⟩
    rw [List.flatMap_cons, hp]
    cases j with
    | zero => simp [e]
    | succ j =>
      rw [List.set_cons_succ, List.flatMap_cons, hp, ← enc_set2 X j m a b hS e, show (j + 1) * 2 = j * 2 + 1 + 1 by omega]
      rfl
theorem ls_some {W : World} {B K cL : Nat} {AL : Option Addr} {vs : Nat → Value} {r : Nat → Ro} {ex : List Ro} (h : Owns W B (rowsF K r ++ lsRow L AL K cL vs :: ex)) (hK : 0 < K) : ∃ G, AL = some ⟨G, 0, none⟩ := by
  have h1 := h.at_ (i := K + 0) (rowsF_ex r (lsRow L AL K cL vs) ex 0)
  obtain ⟨g, c', h4⟩ := ownsRow_some h1 hK
  have h5 : Value.slice AL K cL = .slice (some ⟨g, 0, none⟩) K c' := h4
  injection h5 with h5
  exact ⟨g, h5⟩
theorem row_upd {K k : Nat} {vs : Nat → Value} {ns : Nat → Nat} {fs : Nat → List α} {x : List α} (_hk : k < K) : rowsF K (updR (rowB enc S E vs ns fs) k ⟨E, S, vs k, ns k, x.flatMap enc⟩) = rowsF K (rowB enc S E vs ns (updF fs k x)) :=
  rowsF_congr fun j _ => by
    unfold updR rowB updF
    by_cases h : j = k
    · subst h; simp
    · simp [h]
theorem mark_step (ns : Nat → Nat) (fs : Nat → List α) (k : Nat) : markF mk ns fs (k + 1) = updF (markF mk ns fs k) k (marks3 mk ((k : Int) + 1) (ns k)) := by
  funext j
  unfold markF updF
  dsimp only
  by_cases h : j = k
  · subst h; simp
  · by_cases h2 : j < k
    · rw [if_pos (by omega), if_neg h, if_pos h2]
    · rw [if_neg (by omega), if_neg h, if_neg h2]
theorem upd_self (f : Nat → List α) (k : Nat) : updF f k (f k) = f := by
  funext j
  unfold updF
  by_cases h : j = k
  · subst h; simp
  · rw [if_neg h]
theorem upd_upd (f : Nat → List α) (k : Nat) (x y : List α) : updF (updF f k x) k y = updF f k y := by
  funext j
  unfold updF
  by_cases h : j = k <;> simp [h]
theorem over_set3 (q : Int) (xs : List α) (j : Nat) (h : j < xs.length) : (marks3 mk q j ++ xs.drop j).set j (mk q j) = marks3 mk q (j + 1) ++ xs.drop (j + 1) := by
  rw [List.drop_eq_getElem_cons h, List.set_append_right _ _ (by rw [marks3_len]; omega), marks3_len, Nat.sub_self, List.set_cons_zero, marks3_succ]
  simp
theorem apart_row {K k : Nat} {vs : Nat → Value} {ns : Nat → Nat} {f : Nat → List α} {ex : List Ro} (hk : k < K) (X : List α) {g n c1 : Nat} (hv : vs k = .slice (some ⟨g, 0, none⟩) n c1) (hn : n = ns k) :
    (rowsF K (rowB enc S E vs ns (updF f k X)) ++ ex)[k]? = some ⟨E, S, .slice (some ⟨g, 0, none⟩) n c1, n, X.flatMap enc⟩ := by
  rw [rowsF_get _ _ hk]
  unfold rowB
  rw [hv, ← hn]
  simp [updF]
theorem OldOk.set {rs : List Ro} {v : Value} {ys : List Value} (h : OldOk S E rs v ys) {k : Nat} {old : Ro} (hk : rs[k]? = some old) (new : Ro)
    (hne : old.e ≠ E ∨ (new.e = E ∧ new.size = S ∧ new.v.ownBlock = old.v.ownBlock ∧ old.xs <+: new.xs)) : OldOk S E (rs.set k new) v ys := by
  obtain ⟨r, hr, h1, h2, h3, h4⟩ := h
  obtain ⟨i, hi⟩ := List.mem_iff_getElem?.1 hr
  have hkl : k < rs.length := (List.getElem?_eq_some_iff.1 hk).1
  by_cases hik : k = i
  · subst hik
    rw [hk] at hi
    injection hi with hi
    subst hi
    rcases hne with hne | ⟨g1, g2, g3, g4⟩
    · exact absurd h1 hne
    · exact ⟨new, List.mem_iff_getElem?.2 ⟨k, by rw [List.getElem?_set_self hkl]⟩, g1, g2, g3.trans h3, h4.trans g4⟩
  · exact ⟨r, List.mem_iff_getElem?.2 ⟨i, by rw [List.getElem?_set_ne hik]; exact hi⟩, h1, h2, h3, h4⟩
theorem OldOk.moved {rs : List Ro} {v : Value} {ys : List Value} (h : OldOk S E rs v ys) {k : Nat} {old : Ro} (hk : rs[k]? = some old) (new : Ro) : OldOk S E (rs.set k new ++ [old]) v ys := by
  obtain ⟨r, hr, hh⟩ := h
  obtain ⟨i, hi⟩ := List.mem_iff_getElem?.1 hr
  by_cases hik : k = i
  · subst hik
    rw [hk] at hi
    injection hi with hi
    subst hi
    exact ⟨old, by simp, hh⟩
  · exact ⟨r, List.mem_append_left _ (List.mem_iff_getElem?.2 ⟨i, by rw [List.getElem?_set_ne hik]; exact hi⟩), hh⟩
theorem OldOk.cell {w : World} {B : Nat} {rs : List Ro} {g n c j : Nat} {ys : List Value} {u : Value} (h : OldOk S E rs (.slice (some ⟨g, 0, none⟩) n c) ys) (hO : Owns w B rs) (hu : ys[j]? = some u) : w.cell? ⟨g, j, none⟩ = some u := by
  obtain ⟨r, hr, h1, h2, h3, h4⟩ := h
  have hrow := hO.1 r hr
  rw [h1, h2] at hrow
  have hx : r.xs[j]? = some u := by
    obtain ⟨t, ht⟩ := h4
    rw [← ht, List.getElem?_append_left (List.getElem?_eq_some_iff.1 hu).1]
    exact hu
  have := hrow.cells (g := g) (by rw [h3]; rfl) j u hx
  have e1 : (⟨g, 0, none⟩ : Addr).add j = ⟨g, j, none⟩ := by unfold Addr.add; split <;> simp_all
  rwa [e1] at this
theorem Pat.at_ {K : Nat} {vs : Nat → Value} {ns : Nat → Nat} {r : Nat → Ro} {k i : Nat} (h : Pat enc S E mk K vs ns r k i) (hk : k < K) : r k = ⟨E, S, (r k).v, ns k + i, mkU enc mk k (ns k + i)⟩ := by
  have := (h k hk).1
  rw [if_neg (by omega), if_pos rfl] at this
  exact this
theorem Pat.step {K : Nat} {vs : Nat → Value} {ns : Nat → Nat} {r : Nat → Ro} {k i : Nat} (h : Pat enc S E mk K vs ns r k i) (v' : Value) : Pat enc S E mk K vs ns (updR r k ⟨E, S, v', ns k + i + 1, mkU enc mk k (ns k + i + 1)⟩) k (i + 1) := by
  intro j hj
  unfold updR
  by_cases e : j = k
  · subst e
    rw [if_pos rfl, if_neg (by omega), if_pos rfl]
    exact ⟨rfl, fun x => by omega⟩
  · rw [if_neg e]
    have := h j hj
    rw [if_neg e] at this ⊢
    exact ⟨this.1, fun x => this.2 (by omega)⟩
theorem Pat.next {K : Nat} {vs : Nat → Value} {ns : Nat → Nat} {r : Nat → Ro} {k : Nat} (h : Pat enc S E mk K vs ns r k 64) : Pat enc S E mk K vs ns r (k + 1) 0 := by
  intro j hj
  have := h j hj
  by_cases e : j < k
  · rw [if_pos e] at this
    rw [if_pos (by omega)]
    exact ⟨this.1, fun x => by omega⟩
  · by_cases e2 : j = k
    · subst e2
      rw [if_neg e, if_pos rfl] at this
      rw [if_pos (by omega)]
      exact ⟨this.1, fun x => by omega⟩
    · rw [if_neg e, if_neg e2] at this
      rw [if_neg (by omega)]
      refine ⟨?_, fun x => this.2 (by omega)⟩
      have e3 : (if j = k + 1 then 0 else 0) = 0 := by split <;> rfl
      rw [e3]
      exact this.1
theorem gsRow_upd (v : Value) (k : Nat) (r : Nat → Ro) (x : Ro) : gsRow L v k (updR r k x) = gsRow L v k r := by
  unfold gsRow
  congr 1
  exact List.map_congr_left (fun j hj => by unfold updR; rw [if_neg (by have := List.mem_range.1 hj; omega)])
theorem gsRow_next (v : Value) (k : Nat) (r : Nat → Ro) : (⟨L, 1, v, k + 1, ((List.range k).map fun j => (r j).v) ++ [(r k).v]⟩ : Ro) = gsRow L v (k + 1) r := by
  unfold gsRow
  rw [List.range_succ]
  simp
theorem rowsF_set2 {K : Nat} (r : Nat → Ro) (a b x : Ro) (ex : List Ro) : (rowsF K r ++ a :: b :: ex).set (K + 1) x = rowsF K r ++ a :: x :: ex := by
  rw [List.set_append_right _ _ (by rw [rowsF_len]; omega), rowsF_len, Nat.add_sub_cancel_left]
  rfl
theorem Pat.done {K : Nat} {vs : Nat → Value} {ns : Nat → Nat} {r : Nat → Ro} {j : Nat} (h : Pat enc S E mk K vs ns r K 0) (hj : j < K) : r j = ⟨E, S, (r j).v, ns j + 64, mkU enc mk j (ns j + 64)⟩ := by
  have := (h j hj).1
  rw [if_pos hj] at this
  exact this
theorem apart_put1 {W : World} {B K k : Nat} {vs : Nat → Value} {ns : Nat → Nat} {f : Nat → List α} {ex : List Ro} (hS : ∀ x, (enc x).length = 1) (hk : k < K) (X : List α) {g n c1 j : Nat} (hv : vs k = .slice (some ⟨g, 0, none⟩) n c1) (hn : n = ns k)
    (h : Owns W B (rowsF K (rowB enc 1 E vs ns (updF f k X)) ++ ex)) (hj : j < X.length) (m : α) {a : Value} (e : enc m = [a]) : Owns (W.setCell ⟨g, j, none⟩ a) B (rowsF K (rowB enc 1 E vs ns (updF f k (X.set j m))) ++ ex) := by
  have hl : (X.flatMap enc).length = X.length * 1 := enc_len hS X
  have hr := apart_row (enc := enc) (S := 1) (E := E) (ex := ex) (f := f) hk X hv hn
  have h1 := h.store hr (j := j) (by omega) a
  rw [enc_set1 X j m a hS e, rowsF_set _ _ _ hk] at h1
  have e : rowsF K (updR (rowB enc 1 E vs ns (updF f k X)) k ⟨E, 1, .slice (some ⟨g, 0, none⟩) n c1, n, (X.set j m).flatMap enc⟩) = rowsF K (rowB enc 1 E vs ns (updF f k (X.set j m))) := by
    rw [← upd_upd f k X (X.set j m), ← row_upd hk, hv, hn]
  rw [e] at h1
  exact h1
theorem apart_put2 {W : World} {B K k : Nat} {vs : Nat → Value} {ns : Nat → Nat} {f : Nat → List α} {ex : List Ro} (hS : ∀ x, (enc x).length = 2) (hk : k < K) (X : List α) {g n c1 j : Nat} (hv : vs k = .slice (some ⟨g, 0, none⟩) n c1) (hn : n = ns k)
    (h : Owns W B (rowsF K (rowB enc 2 E vs ns (updF f k X)) ++ ex)) (hj : j < X.length) (m : α) {a b : Value} (e : enc m = [a, b]) : Owns ((W.setCell ⟨g, j * 2, none⟩ a).setCell ⟨g, j * 2 + 1, none⟩ b) B (rowsF K (rowB enc 2 E vs ns (updF f k (X.set j m))) ++ ex) := by
  have hl : (X.flatMap enc).length = X.length * 2 := enc_len hS X
  have hr := apart_row (enc := enc) (S := 2) (E := E) (ex := ex) (f := f) hk X hv hn
  have hlen : k < (rowsF K (rowB enc 2 E vs ns (updF f k X)) ++ ex).length := (List.getElem?_eq_some_iff.1 hr).1
  have h1 := h.store hr (j := j * 2) (by omega) a
  have h2 := h1.store (i := k) (by rw [List.getElem?_set_self hlen]) (j := j * 2 + 1) (by rw [List.length_set]; omega) b
  rw [List.set_set, enc_set2 X j m a b hS e, rowsF_set _ _ _ hk] at h2
  have e : rowsF K (updR (rowB enc 2 E vs ns (updF f k X)) k ⟨E, 2, .slice (some ⟨g, 0, none⟩) n c1, n, (X.set j m).flatMap enc⟩) = rowsF K (rowB enc 2 E vs ns (updF f k (X.set j m))) := by
    rw [← upd_upd f k X (X.set j m), ← row_upd hk, hv, hn]
  rw [e] at h2
  exact h2
theorem apart_last {W : World} {B m q G n c cL : Nat} {vs : Nat → Value} {ns : Nat → Nat} {r : Nat → Ro} {ex : List Ro} {gv : Value} {A : Option Addr} (hS : ∀ x, (enc x).length = S)
    (hO : Owns W B (rowsF m r ++ lsRow L (some ⟨G, 0, none⟩) m cL vs :: gsRow L gv m r :: ex)) (hP : Pat enc S E mk m vs ns r m 0) (hq : q < m) (hOL : OldOk S E (rowsF m r ++ lsRow L (some ⟨G, 0, none⟩) m cL vs :: gsRow L gv m r :: ex) (vs q) (mkU enc mk q (ns q)))
    (hv : vs q = .slice A n c) (hn : n = ns q) (hA : 0 < n → ∃ g, A = some ⟨g, 0, none⟩) :
    ∃ g' cg g5 c5, gv = .slice (some ⟨g', 0, none⟩) m cg ∧ W.cell? ⟨g', q, none⟩ = some (.slice (some ⟨g5, 0, none⟩) (n + 64) c5) ∧ W.cell? ⟨G, q, none⟩ = some (.slice A n c) ∧ g' < W.heap.size ∧ G < W.heap.size ∧ g5 < W.heap.size ∧
      (∀ i, i < n + 64 → ∀ p u, (enc (mk ((q : Int) + 1) i))[p]? = some u → W.cell? ⟨g5, i * S + p, none⟩ = some u) ∧
      (∀ i, i < n → ∃ g, A = some ⟨g, 0, none⟩ ∧ ∀ p u, (enc (mk ((q : Int) + 1) i))[p]? = some u → W.cell? ⟨g, i * S + p, none⟩ = some u ∧ g < W.heap.size) := by
  subst hn
  have hgs : (rowsF m r ++ lsRow L (some ⟨G, 0, none⟩) m cL vs :: gsRow L gv m r :: ex)[m + 1]? = some (gsRow L gv m r) := rowsF_ex r (lsRow L (some ⟨G, 0, none⟩) m cL vs) (gsRow L gv m r :: ex) 1
  obtain ⟨g', cg, hgv⟩ := ownsRow_some (hO.at_ hgs) (show 0 < m by omega)
  have hgv' : gv = .slice (some ⟨g', 0, none⟩) m cg := hgv
  subst hgv'
  have hrow := rowsF_get r (lsRow L (some ⟨G, 0, none⟩) m cL vs :: gsRow L (.slice (some ⟨g', 0, none⟩) m cg) m r :: ex) hq
  have hd := hP.done hq
  rw [hd] at hrow
  obtain ⟨g5, c5, h5⟩ := ownsRow_some (hO.at_ hrow) (show 0 < ns q + 64 by omega)
  have h6 : (r q).v = .slice (some ⟨g5, 0, none⟩) (ns q + 64) c5 := h5
  rw [h6] at hrow
  have hls := rowsF_ex (K := m) r (lsRow L (some ⟨G, 0, none⟩) m cL vs) (gsRow L (.slice (some ⟨g', 0, none⟩) m cg) m r :: ex) 0
  refine ⟨g', cg, g5, c5, rfl, ?_, ?_, (hO.base hgs).2, (hO.base (i := m + 0) hls).2, (hO.base hrow).2, ?_, ?_⟩
  · have := hO.cell hgs (j := q) (u := (r q).v) (by simp [gsRow, hq])
    rw [this, h6]
  · have := hO.cell (i := m + 0) hls (j := q) (u := vs q) (by simp [lsRow, hq])
    rw [this, hv]
  · intro i hi p u hu
    exact hO.cell hrow (mkU_get hS q _ i p hi hu)
  · intro i hi
    obtain ⟨g, rfl⟩ := hA (by omega)
    rw [hv] at hOL
    refine ⟨g, rfl, fun p u hu => ?_⟩
    have h9 := hOL.cell hO (mkU_get hS q _ i p hi hu)
    exact ⟨h9, World.block_lt_of_cell? W _ h9⟩
end
end Go.Proofs.Ytcfpclhoockcfaa
