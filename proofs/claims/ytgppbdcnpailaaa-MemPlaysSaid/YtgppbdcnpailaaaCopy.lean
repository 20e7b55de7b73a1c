/-
  A copy into a row that the call owns, the rows side by side.
-/
import Derived.Laws.CopyOwn
import Derived.Test.YtgppbdcnpailaaaKit
namespace Go.Proofs.Ytgppbdcnpailaaa
open Go.RowKit

theorem take_splice {α : Type} (cur cs : List α) (off n : Nat) (h : off + cs.length ≤ n) (hn : n ≤ cur.length) : (cur.take off ++ cs ++ cur.drop (off + cs.length)).take n = splice (cur.take n) off cs := by
  have hA : (cur.take off).length = off := by rw [List.length_take]; omega
  have h1 : (cur.take off ++ (cs ++ cur.drop (off + cs.length))).take n = cur.take off ++ (cs ++ cur.drop (off + cs.length)).take (n - off) := by rw [List.take_append, hA, List.take_of_length_le (by omega)]
  have h2 : (cs ++ cur.drop (off + cs.length)).take (n - off) = cs ++ (cur.drop (off + cs.length)).take (n - off - cs.length) := by rw [List.take_append, List.take_of_length_le (by omega)]
  unfold splice
  rw [List.append_assoc, h1, h2, List.take_take, Nat.min_eq_left (by omega), List.drop_take, Nat.sub_sub]
theorem run_copy_owns {P : Program} {w : World} {B : Nat} {rs : List Ro} {k : Nat} {e elem : TypeId} {n c g off dLen dCap sLen sCap : Nat} {sp : Option Addr} {xs cs : List Value} (dT sT ty : TypeId)
    (hu : P.underlying dT = some (.slice elem)) (hsz : (P.info? elem).map (·.size) = some 1) (hr : rs[k]? = some ⟨e, 1, .slice (some ⟨g, 0, none⟩) n c, n, xs⟩) (hO : Owns w B rs)
    (hn : cs.length = Nat.min sLen dLen) (hsrc : 0 < cs.length → ∃ ad, sp = some ad ∧ ∀ j v, cs[j]? = some v → w.cell? (ad.add j) = some v) (hfit : off + cs.length ≤ n) (h1 : ∀ v ∈ cs, v.oneCell' = true) :
    ∃ w', (Builtin.copy_ #[dT, sT] ty #[.slice (some ⟨g, off, none⟩) dLen dCap, .slice sp sLen sCap]).run P w = .ok (goInt cs.length) w' ∧
      Owns w' B (rs.set k ⟨e, 1, .slice (some ⟨g, 0, none⟩) n c, n, splice xs off cs⟩) ∧ Below B w w' ∧ w.heap.size ≤ w'.heap.size := by
  have hk : k < rs.length := (List.getElem?_eq_some_iff.1 hr).1
  by_cases h0 : cs.length = 0
  · obtain rfl : cs = [] := List.eq_nil_of_length_eq_zero h0
    have hrun := run_copy_none (P := P) w dT sT ty elem (some ⟨g, off, none⟩) sp dLen dCap sLen sCap hu hsz (by simpa using hn.symm)
    refine ⟨w, hrun, ?_, Below.refl _ _, Nat.le_refl _⟩
    have e1 : splice xs off [] = xs := by simp [splice]
    rw [e1]
    have e2 : rs.set k ⟨e, 1, .slice (some ⟨g, 0, none⟩) n c, n, xs⟩ = rs := by
      apply List.ext_getElem?
      intro j
      rw [List.getElem?_set]
      split
      · next h => subst h; first | exact hr.symm | (rw [if_pos hk]; exact hr.symm)
      · rfl
    rw [e2]
    exact hO
  · obtain ⟨ad, rfl, hcell⟩ := hsrc (by omega)
    have hrow := hO.at_ hr
    have hb := hO.base hr
    obtain ⟨hxl, hro⟩ := hrow
    rcases hro with ⟨hv, _⟩ | ⟨g', cap, cur, hv, hbg, hg, hnc, hcm, hcs, htk⟩
    · cases hv
    · injection hv with hv1 _ hv3
      injection hv1 with hv1
      injection hv1 with hv1
      subst hv1 hv3
      simp only [Nat.mul_one] at hxl hcs htk
      have hl : cur.toList.length = c := by simpa using hcs
      have hrun := run_copy_row (P := P) w dT sT ty elem g off dLen dCap ad sLen sCap cur e cs hu hsz hg hn hcell (by omega) h1
      have hgr : w.grownBy (w.setRow g (cur.toList.take off ++ cs ++ cur.toList.drop (off + cs.length)).toArray) (some g) :=
        ⟨rfl, rfl, rfl, by simp [World.setRow], fun k' _ hk' => setRow_other w g k' _ (fun h => hk' (by rw [h]))⟩
      refine ⟨_, hrun, hO.turn hr hgr (r' := ⟨e, 1, .slice (some ⟨g, 0, none⟩) n c, n, splice xs off cs⟩) ⟨?_, .inr ⟨g, c, _, rfl, hbg, setRow_heap w g _ _ e _ hg, hnc, hcm, ?_, ?_⟩⟩ (.inl rfl), below_setRow (Below.refl _ _) hbg _, hgr.size⟩
      · show (splice xs off cs).length = n * 1
        rw [length_splice _ _ _ (by omega)]
        omega
      · simp
        omega
      · show (cur.toList.take off ++ cs ++ cur.toList.drop (off + cs.length)).toArray.toList.take (n * 1) = splice xs off cs
        rw [Nat.mul_one, List.toList_toArray, take_splice _ _ _ _ hfit (by omega), htk]
theorem step_copy_owns {P : Program} {ops : Array Oper} {o : Oper} {a : Act} {w : World} {K : Act → World → Prop} {Q : Exit → Act → World → Prop} {E : Prop} (hgd : o.guard = none) (d s : Operand) (dT sT : TypeId)
    (ho : o.op = .call { callee := .builtin .copy, args := #[d, s], argTypes := #[dT, sT] }) (elem : TypeId) (hu : P.underlying dT = some (.slice elem)) (hsz : (P.info? elem).map (·.size) = some 1)
    (g off dLen dCap sLen sCap : Nat) (sp : Option Addr) (hd : a.eval d = .slice (some ⟨g, off, none⟩) dLen dCap) (hs : a.eval s = .slice sp sLen sCap)
    (B : Nat) (rs : List Ro) (k : Nat) (e : TypeId) (n c : Nat) (xs cs : List Value) (hr : rs[k]? = some ⟨e, 1, .slice (some ⟨g, 0, none⟩) n c, n, xs⟩) (hO : Owns w B rs)
    (hn : cs.length = Nat.min sLen dLen) (hsrc : 0 < cs.length → ∃ ad, sp = some ad ∧ ∀ j v, cs[j]? = some v → w.cell? (ad.add j) = some v) (hfit : off + cs.length ≤ n) (h1 : ∀ v ∈ cs, v.oneCell' = true)
    (h : ∀ w', Owns w' B (rs.set k ⟨e, 1, .slice (some ⟨g, 0, none⟩) n c, n, splice xs off cs⟩) → Below B w w' → w.heap.size ≤ w'.heap.size → K (a.put o.dst (goInt cs.length)) w') :
    if Region.wanted o (yielded ops a.tmps) = true then Oper.wp P o a w K Q else E := by
  have hw : Region.wanted o (yielded ops a.tmps) = true := by simp [Region.wanted, hgd]
  rw [if_pos hw]
  obtain ⟨w', hrun, h2, h3, h4⟩ := run_copy_owns (P := P) (dLen := dLen) (dCap := dCap) (sLen := sLen) (sCap := sCap) dT sT o.type hu hsz hr hO hn hsrc hfit h1
  unfold Oper.wp
  simp [execOp, ho, resolve, invoke, builtin, hd, hs, hrun, Result.andThen]
  exact h w' h2 h3 h4
end Go.Proofs.Ytgppbdcnpailaaa
