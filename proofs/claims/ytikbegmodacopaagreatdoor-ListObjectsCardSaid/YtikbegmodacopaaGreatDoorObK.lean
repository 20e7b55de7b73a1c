/-
  Lists that were grown and what is kept of them; rows of several answers side by side.
-/
import Derived.Test.YtikbegmodacopaaGreatDoorOvr
namespace Go.Proofs.YtikbegmodacopaaGreatDoor
open Go.RowKit Go.PlainAid Go.BigFrame
set_option linter.unusedSimpArgs false
set_option linter.unusedVariables false
set_option maxRecDepth 100000
/-- a row that holds what an old one held -/
def Kin (rs : List Ro) (old : Ro) : Prop := ∃ r ∈ rs, r.e = old.e ∧ r.size = old.size ∧ r.v.ownBlock = old.v.ownBlock ∧ old.xs <+: r.xs
theorem Kin.self {rs : List Ro} {old : Ro} (h : old ∈ rs) : Kin rs old := ⟨old, h, rfl, rfl, rfl, List.prefix_refl _⟩
theorem kin_step {W : World} {B k size n n' : Nat} {rs olds : List Ro} {e : TypeId} {v v' : Value} {xs xs' : List Value} (hr : rs[k]? = some ⟨e, size, v, n, xs⟩)
    (hsp : (v'.ownBlock = v.ownBlock ∧ Owns W B (rs.set k ⟨e, size, v', n', xs'⟩)) ∨ Owns W B (rs.set k ⟨e, size, v', n', xs'⟩ ++ [⟨e, size, v, n, xs⟩])) (hp : xs <+: xs') (hA : ∀ o ∈ olds, Kin rs o) :
    ∃ ex, Owns W B (rs.set k ⟨e, size, v', n', xs'⟩ ++ ex) ∧ ∀ o ∈ olds, Kin (rs.set k ⟨e, size, v', n', xs'⟩ ++ ex) o := by
  have hkl : k < rs.length := (List.getElem?_eq_some_iff.1 hr).1
  rcases hsp with ⟨hb, hO⟩ | hO
  · refine ⟨[], by rw [List.append_nil]; exact hO, fun o ho => ?_⟩
    rw [List.append_nil]
    obtain ⟨r, hm, h1, h2, h3, h4⟩ := hA o ho
    obtain ⟨i, hi⟩ := List.mem_iff_getElem?.1 hm
    by_cases hik : k = i
    · subst hik
      rw [hr] at hi
      injection hi with hi
      subst hi
      exact ⟨⟨e, size, v', n', xs'⟩, List.mem_iff_getElem?.2 ⟨k, by rw [List.getElem?_set_self hkl]⟩, h1, h2, hb.trans h3, h4.trans hp⟩
    · exact ⟨r, List.mem_iff_getElem?.2 ⟨i, by rw [List.getElem?_set_ne hik]; exact hi⟩, h1, h2, h3, h4⟩
  · refine ⟨_, hO, fun o ho => ?_⟩
    obtain ⟨r, hm, h1, h2, h3, h4⟩ := hA o ho
    obtain ⟨i, hi⟩ := List.mem_iff_getElem?.1 hm
    by_cases hik : k = i
    · subst hik
      rw [hr] at hi
      injection hi with hi
      subst hi
      exact ⟨_, by simp, h1, h2, h3, h4⟩
    · exact ⟨r, List.mem_append_left _ (List.mem_iff_getElem?.2 ⟨i, by rw [List.getElem?_set_ne hik]; exact hi⟩), h1, h2, h3, h4⟩
theorem Kin.cell {w : World} {B : Nat} {rs : List Ro} {e : TypeId} {size g n c m j : Nat} {ys : List Value} {u : Value} (h : Kin rs ⟨e, size, .slice (some ⟨g, 0, none⟩) n c, m, ys⟩) (hO : Owns w B rs) (hu : ys[j]? = some u) : w.cell? ⟨g, j, none⟩ = some u := by
  obtain ⟨r, hr, h1, h2, h3, h4⟩ := h
  have hrow := hO.1 r hr
  rw [h1, h2] at hrow
  have hx : r.xs[j]? = some u := by
    obtain ⟨t, ht⟩ := h4
    rw [← ht, List.getElem?_append_left (List.getElem?_eq_some_iff.1 hu).1]
    exact hu
  have := hrow.cells (g := g) (by rw [h3]; rfl) j u hx
  have e1 : (⟨g, 0, none⟩ : Addr).add j = ⟨g, j, none⟩ := by unfold Addr.add; split <;> simp_all
  rwa [e1] at this
theorem Kin.lt {w : World} {B : Nat} {rs : List Ro} {e : TypeId} {size g n c m j : Nat} {ys : List Value} (h : Kin rs ⟨e, size, .slice (some ⟨g, 0, none⟩) n c, m, ys⟩) (hO : Owns w B rs) : g < w.heap.size := by
  obtain ⟨r, hr, h1, h2, h3, h4⟩ := h
  exact (hO.lt_ hr (h3.trans rfl)).2
theorem Owns.join {w w' : World} {B : Nat} {rs qs : List Ro} (h : Owns w B rs) (hb : Below w.heap.size w w') (hq : Owns w' w.heap.size qs) (hB : B ≤ w.heap.size) : Owns w' B (rs ++ qs) := by
  refine ⟨fun r hr => ?_, ?_⟩
  · rcases List.mem_append.1 hr with hr | hr
    · exact (h.below hb).1 r hr
    · exact own_lo (hq.1 r hr) hB
  · rw [List.pairwise_append]
    refine ⟨(h.below hb).2, hq.2, fun s hs t ht => ?_⟩
    cases hv : s.v.ownBlock with
    | none => exact .inl rfl
    | some k =>
      right
      intro he
      have h1 := (h.lt_ hs hv).2
      have h2 := (hq.lt_ ht he.symm).1
      omega
structure YFit (y : ObjV) : Prop where
  c : y.code.length ≤ 16384
  d : y.data.length ≤ 65536
  l : y.labels.length ≤ 4096
  f : y.fixes.length ≤ 16384
  t : y.targets.length ≤ 16384
  e : y.entries.length ≤ 64
end Go.Proofs.YtikbegmodacopaaGreatDoor
