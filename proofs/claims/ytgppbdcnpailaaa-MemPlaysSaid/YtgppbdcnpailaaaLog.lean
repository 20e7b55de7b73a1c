/-
  The walks of Log and Touched; the errors of New, From, Read.
-/
import Derived.Test.YtgppbdcnpailaaaMemNil
namespace Go.Proofs.Ytgppbdcnpailaaa
open Go.RowKit

section
variable {W : World} {B g d N c : Nat} {logs : Bool} {tv : Value} {ts : List (Int × Bool)} {xs : List Int} {ex : List Ro}
/-- the log begins or ends, and is empty then; the elder log's list stays where it is -/
theorem Log_any (b : Bool) (hO : Owns W B (memRows g d N c logs tv ts xs ++ ex)) (hN : IsPow N) :
    Calls Try.prog 45 #[.pointer (some ⟨g, 0, none⟩), .bool b] W fun e W' => e = .returned (.tuple #[]) ∧ Owns W' B (memRows g d N c b (.slice none 0 0) [] xs ++ ex) ∧ Below B W W' := by
  have c0 : W.cell? ⟨g, 0, none⟩ = some (.slice (some ⟨d, 0, none⟩) N c) := hO.cell (i := 0) rfl rfl
  have c1 : W.cell? ⟨g, 1, none⟩ = some (.bool logs) := hO.cell (i := 0) rfl rfl
  have c2 : W.cell? ⟨g, 2, none⟩ = some tv := hO.cell (i := 0) rfl rfl
  obtain ⟨A, ct, htv, _, _⟩ := ownsRow_slice (hO.at_ (i := 2) rfl)
  simp only at htv
  subst htv
  have f1 := hO.frozen (i := 0) rfl 1
  have f2 := hO.frozen (i := 0) rfl 2
  have hb := hO.base (i := 0) rfl
  have hm := hide_ (made_any g d N c W c0 hN.bd.1)
  have h1 := (hO.store (i := 0) (e := 83) (size := 1) (n := 3) (g := g) (c := 3) (j := 1) rfl (by simp) (.bool b)).store (i := 0) (e := 83) (size := 1) (n := 3) (g := g) (c := 3) (j := 2) rfl (by simp) (.slice none 0 0)
  have hb1 := ((Below.refl B W).setCell (p := ⟨g, 1, none⟩) hb.1 (.bool b)).setCell (p := ⟨g, 2, none⟩) hb.1 (.slice none 0 0)
  have h2 : Owns ((W.setCell ⟨g, 1, none⟩ (.bool b)).setCell ⟨g, 2, none⟩ (.slice none 0 0)) B (memRows g d N c b (.slice none 0 0) [] xs ++ ex) := by
    have h3 := (h1.sub (qs := [⟨83, 1, .slice (some ⟨g, 0, none⟩) 3 3, 3, [.slice (some ⟨d, 0, none⟩) N c, .bool b, .slice none 0 0]⟩, ⟨5, 1, .slice (some ⟨d, 0, none⟩) N c, N, u8s xs⟩] ++ ex) (.cons_cons _ (.cons_cons _ (.cons _ (.refl _))))).nilrow 73 2
    refine h3.swap ?_
    unfold memRows
    rw [List.append_assoc]
    exact (List.perm_append_left_iff [_, _]).2 List.perm_append_comm
  have H2 := hide_ h2
  have HB1 := hide_ hb1
  clear h1 h2 hb1 hO
  go_enter Try.func45, Try.ntmps45
  go_wp2_with (go_at_call 76; refine hm.out.mono ?_; rintro e w' ⟨rfl, rfl⟩)
  go_end0
  exact ⟨rfl, H2.out, HB1.out⟩
/-- the log, clipped, and taken out: what it told is read where it lies -/
theorem Touched_any (hO : Owns W B (memRows g d N c logs tv ts xs ++ ex)) (hN : IsPow N) :
    Calls Try.prog 46 #[.pointer (some ⟨g, 0, none⟩)] W fun e W' => ∃ A, e = .returned (.slice A ts.length ts.length) ∧ Owns W' B (memRows g d N c logs (.slice none 0 0) [] xs ++ ex) ∧ Below B W W' ∧ Reads W' W'.heap.size 2 A ts.length (touchCells ts) ∧
      (0 < ts.length → ∃ t, A = some ⟨t, 0, none⟩ ∧ t < W'.heap.size) := by
  have c0 : W.cell? ⟨g, 0, none⟩ = some (.slice (some ⟨d, 0, none⟩) N c) := hO.cell (i := 0) rfl rfl
  have c2 : W.cell? ⟨g, 2, none⟩ = some tv := hO.cell (i := 0) rfl rfl
  obtain ⟨A, ct, htv, hct, hcm⟩ := ownsRow_slice (hO.at_ (i := 2) rfl)
  simp only at htv
  subst htv
  have hAt : 0 < ts.length → ∃ t, A = some ⟨t, 0, none⟩ ∧ t < (W.setCell ⟨g, 2, none⟩ (.slice none 0 0)).heap.size := fun h => by
    obtain ⟨t, ct', ht⟩ := ownsRow_some (hO.at_ (i := 2) rfl) h
    injection ht with ht _ _
    subst ht
    exact ⟨t, rfl, by have := (hO.base (i := 2) rfl).2; simpa [World.setCell] using this⟩
  have f2 := hO.frozen (i := 0) rfl 2
  have hb := hO.base (i := 0) rfl
  have hm := hide_ (made_any g d N c W c0 hN.bd.1)
  have h1 := hO.store (i := 0) (e := 83) (size := 1) (n := 3) (g := g) (c := 3) (j := 2) rfl (by simp) (.slice none 0 0)
  have hb1 := (Below.refl B W).setCell (p := ⟨g, 2, none⟩) hb.1 (.slice none 0 0)
  have hrd : Reads (W.setCell ⟨g, 2, none⟩ (.slice none 0 0)) (W.setCell ⟨g, 2, none⟩ (.slice none 0 0)).heap.size 2 A ts.length (touchCells ts) := Reads.of_own (h1.at_ (i := 2) rfl)
  have h2 : Owns (W.setCell ⟨g, 2, none⟩ (.slice none 0 0)) B (memRows g d N c logs (.slice none 0 0) [] xs ++ ex) := by
    have h3 := (h1.sub (qs := [⟨83, 1, .slice (some ⟨g, 0, none⟩) 3 3, 3, [.slice (some ⟨d, 0, none⟩) N c, .bool logs, .slice none 0 0]⟩, ⟨5, 1, .slice (some ⟨d, 0, none⟩) N c, N, u8s xs⟩] ++ ex) (.cons_cons _ (.cons_cons _ (.cons _ (.refl _))))).nilrow 73 2
    refine h3.swap ?_
    unfold memRows
    rw [List.append_assoc]
    exact (List.perm_append_left_iff [_, _]).2 List.perm_append_comm
  obtain ⟨m, hmm⟩ : ∃ m, m = ts.length := ⟨_, rfl⟩
  rw [← hmm] at c2 hrd hAt ⊢
  have hct' : m ≤ ct := by rw [hmm]; exact hct
  have H2 := hide_ h2
  have HB1 := hide_ hb1
  have HRD := hide_ hrd
  have HAT := hide_ hAt
  clear h1 h2 hb1 hO hrd hmm hct hcm hAt
  have i0 : (0 : Int) ≤ (m : Int) := by omega
  have i1 : (m : Int) ≤ (ct : Int) := by omega
  go_enter Try.func46, Try.ntmps46
  go_wp2_with (go_at_call 76; refine hm.out.mono ?_; rintro e w' ⟨rfl, rfl⟩)
  go_wp2
  go_ret
  exact ⟨A, rfl, H2.out, HB1.out, HRD.out, HAT.out⟩
end
end Go.Proofs.Ytgppbdcnpailaaa
