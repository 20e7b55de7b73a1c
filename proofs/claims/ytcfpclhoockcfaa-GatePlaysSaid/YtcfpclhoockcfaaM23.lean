/-
  playpenlaw16.opened: a gate of grants.
-/
import Derived.Test.YtcfpclhoockcfaaM21
import Derived.Test.YtcfpclhoockcfaaM22
namespace Go.Proofs.Ytcfpclhoockcfaa
open Go.RowKit Go.PlainAid Go.BigFrame
set_option linter.unusedVariables false
set_option linter.unusedSimpArgs false
set_option maxRecDepth 100000
theorem cap_of {w : World} {B size n c : Nat} {e : TypeId} {A : Option Addr} {xs : List Value} (h : w.ownsRow B e size (.slice A n c) n xs) : n ≤ c := by
  obtain ⟨_, c', e, h1, _⟩ := ownsRow_slice h
  injection e with _ _ e3
  rw [e3]
  exact h1
theorem GateAt.same {w w' : World} {q : Nat} {D : MD} (h : GateAt w q D) (hz : w.heap.size ≤ w'.heap.size) (hq : w'.heap[q]? = w.heap[q]?) (hm : ∀ m, w.cell? ⟨q, 0, none⟩ = some (.map (some m)) → w'.heap[m]? = w.heap[m]?) : GateAt w' q D := by
  obtain ⟨m, n, h1, h2, h3, h4, h5⟩ := h
  refine ⟨m, n, (World.cell?_of_block hq).trans h1, Nat.lt_of_lt_of_le h2 hz, Nat.lt_of_lt_of_le h3 hz, ?_, h5⟩
  obtain ⟨es, clock, k1, k2⟩ := h4
  exact ⟨es, clock, (hm m h1).trans k1, k2⟩
theorem GateAt.grown {w w' : World} {q g : Nat} {D : MD} (h : GateAt w q D) (hg : w.grownBy w' (some g)) (h1 : g ≠ q) (h2 : ∀ m, w.cell? ⟨q, 0, none⟩ = some (.map (some m)) → g ≠ m) : GateAt w' q D := by
  obtain ⟨m, n, k1, k2, k3, k4, k5⟩ := h
  refine GateAt.same ⟨m, n, k1, k2, k3, k4, k5⟩ hg.size (hg.block q k2 (fun e => h1 (Option.some.inj e).symm)) (fun m' hm' => ?_)
  have e : m' = m := by
    rw [k1] at hm'
    injection hm' with hm'
    injection hm' with hm'
    injection hm' with hm'
    exact hm'.symm
  subst e
  exact hg.block m' k3 (fun e => h2 m' hm' (Option.some.inj e).symm)
/-- a gate that was made of a list -/
def GateOf (w w' : World) (q : Nat) (l : List (Int × Int)) : Prop := ∃ D, LOk l ∧ Is D l ∧ GateAt w' q D ∧ GateNew w w' q
theorem gptr_eq (w : World) (a : Option Addr) : (binOp .eql 25 (.pointer a) (.pointer none)).run Try.prog w = .ok (.bool a.isNone) w := by cases a <;> kernel_rfl
theorem gptr_ne (w : World) (a : Option Addr) : (binOp .neq 25 (.pointer a) (.pointer none)).run Try.prog w = .ok (.bool (!a.isNone)) w := by cases a <;> kernel_rfl
set_option maxHeartbeats 1000000 in
theorem opened_any (A : Option Addr) (n c B : Nat) (l : List (Int × Int)) (w : World) (hr : Reads w B 2 A n (gCells l)) (hB : B ≤ w.heap.size) (hn : n * 16 ≤ 140737488351232) (hwf : ∀ t ∈ l, (Lit.int .u32 t.1).wf = true ∧ (Lit.int .i64 t.2).wf = true) (h0 : ∀ t ∈ l, 0 ≤ t.1) :
    Calls Try.prog 4 #[.slice A n c] w fun e w' => ((∃ q, e = .returned (.tuple #[.pointer (some ⟨q, 0, none⟩), .bool true]) ∧ GateOf w w' q l) ∨ e = .returned (.tuple #[.pointer none, .bool true])) ∧ Below w.heap.size w w' := by
  have HLN := hide_ (LentGrants_any A n c B l w hr hB hn)
  have HR := hide_ (fun W (hb : Below w.heap.size w W) => show GReads W B A n l from GReads.of_reads (hr.below (hb.mono hB)))
  have HL := hide_ (show l.length = n from (GReads.of_reads hr).1)
  have HB := hide_ hB
  have HWF := hide_ hwf
  have H0 := hide_ h0
  have HN := hide_ (show n ≤ 140737488351232 by omega)
  clear hr hB hwf h0 hn
  go_enter Try.func4, Try.ntmps4
  go_wp2_with fail
  refine HLN.out.mono ?_
  rintro e w1 ⟨v, rfl, ho1, hb1⟩
  obtain ⟨g, cg, hv⟩ := ownsRow_some ho1 (show 0 < n + 64 by omega)
  subst hv
  have hcc := cap_of ho1
  have HCC := hide_ hcc
  have HO1 := hide_ (show Owns w1 w.heap.size [⟨68, 2, .slice (some ⟨g, 0, none⟩) (n + 64) cg, n + 64, gCells (l ++ marksG 64)⟩] from by
    have h := Owns.push (Owns.nil_ (w := w) (B := w.heap.size)) hb1 (r := ⟨68, 2, .slice (some ⟨g, 0, none⟩) (n + 64) cg, n + 64, gCells (l ++ marksG 64)⟩) ho1 (Nat.le_refl _)
    exact h)
  have HB1 := hide_ hb1
  have HG := hide_ (fun W (hO : Owns W w.heap.size [⟨68, 2, .slice (some ⟨g, 0, none⟩) (n + 64) cg, n + 64, gCells (l ++ marksG 64)⟩]) => show GReads W W.heap.size (some ⟨g, 0, none⟩) (n + 64) (l ++ marksG 64) from GReads.of_reads (Reads.of_own (hO.at_ (i := 0) rfl)))
  have HP := hide_ (fun W (h : GReads W W.heap.size (some ⟨g, 0, none⟩) (n + 64) (l ++ marksG 64)) => show GReads W W.heap.size (some ⟨g, 0, none⟩) n l from ⟨HL.out, fun hn => by
    obtain ⟨ad, e, hb2, hc⟩ := h.2 (by omega)
    exact ⟨ad, e, hb2, fun j x a hx => hc j x a (by rw [List.getElem?_append_left (List.getElem?_eq_some_iff.1 hx).1]; exact hx)⟩⟩)
  have hcn : n ≤ cg := by omega
  have HNW := hide_ (New_gany (some ⟨g, 0, none⟩) n cg l w1.heap.size w1 (HP.out _ (HG.out _ HO1.out)) (Nat.le_refl _) HWF.out)
  clear ho1 hb1 hcc HLN HWF
  go_wp2_with fail
  refine HNW.out.mono ?_
  rintro e w2 ⟨hcase, hb2⟩
  have HO2 := hide_ (HO1.out.below hb2)
  have HB2 := hide_ (HB1.out.trans (hb2.mono HB1.out.size))
  have HGL := hide_ (HO1.out.base (i := 0) rfl).2
  have HKP := hide_ (KeptGrants_any (some ⟨g, 0, none⟩) A n cg c w2.heap.size l w2 (by have := HN.out; omega) (by have := HCC.out; omega) (HG.out _ HO2.out) (by have h := (HR.out _ HB2.out); exact h.more (Nat.le_trans HB.out HB2.out.size)) (Nat.le_refl _))
  have HMY := hide_ (fun W (hb : Below w.heap.size w W) => rMay_any A n c B l W (HR.out W hb) (Nat.le_trans HB.out hb.size) HN.out H0.out)
  have HB12 := hide_ hb2
  clear hb2 HNW
  rcases hcase with ⟨D, q, hD, rfl, hga, hgn⟩ | ⟨hD, rfl⟩
  · have HLK := hide_ (newD_some H0.out hD)
    have HGA := hide_ (And.intro hga hgn)
    clear hD hga hgn
    go_wp2_with fail
    refine HKP.out.mono ?_
    rintro e w3 ⟨rfl, hb3⟩
    have HO3 := hide_ (HO2.out.below hb3)
    have HB3 := hide_ (HB2.out.trans (hb3.mono HB2.out.size))
    have HGA3 := hide_ (show GateAt w3 q D ∧ GateNew w1 w3 q from ⟨HGA.out.1.below hb3, HGA.out.2.1, fun m hm => by
      obtain ⟨m', n', k1, k2, _⟩ := HGA.out.1
      have : w3.cell? ⟨q, 0, none⟩ = w2.cell? ⟨q, 0, none⟩ := hb3.cell k2
      exact HGA.out.2.2 m (by rw [← this]; exact hm)⟩)
    have HOV := hide_ (OverGrants_any g (n + 64) cg w.heap.size (l ++ marksG 64) w3 (by have := HN.out; omega) (by rw [List.length_append, marksG_len, HL.out]) HO3.out HB3.out.size)
    clear hb3 HKP HGA HO2 HB2
    go_wp2_with fail
    refine HOV.out.mono ?_
    rintro e w4 ⟨rfl, hb4, hg4⟩
    have HB4 := hide_ (HB3.out.trans hb4)
    have HGA4 := hide_ (show GateAt w4 q D ∧ GateNew w1 w4 q from by
      obtain ⟨k1, k2⟩ := HGA3.out
      have e1 : g ≠ q := by have := k2.1; have := HGL.out; omega
      have e2 : ∀ m, w3.cell? ⟨q, 0, none⟩ = some (.map (some m)) → g ≠ m := fun m hm => by have := k2.2 m hm; have := HGL.out; omega
      refine ⟨k1.grown hg4 e1 e2, k2.1, fun m hm => ?_⟩
      obtain ⟨m', n', j1, j2, _⟩ := k1
      have : w4.cell? ⟨q, 0, none⟩ = w3.cell? ⟨q, 0, none⟩ := World.cell?_of_block (hg4.block q j2 (fun e => e1 (Option.some.inj e).symm))
      exact k2.2 m (by rw [← this]; exact hm))
    clear hb4 hg4 HOV HGA3 HO3 HB3
    go_wp2_with fail
    refine (HMY.out _ HB4.out).mono ?_
    rintro e w5 ⟨⟨b, rfl, hbi⟩, hb5⟩
    obtain rfl : b = true := hbi.2 HLK.out.1
    have HB5 := hide_ (HB4.out.trans (hb5.mono HB4.out.size))
    have HGA5 := hide_ (show GateOf w w5 q l from ⟨D, HLK.out.1, HLK.out.2, HGA4.out.1.below hb5, Nat.le_trans HB1.out.size HGA4.out.2.1, fun m hm => by
      obtain ⟨m', n', j1, j2, _⟩ := HGA4.out.1
      have : w5.cell? ⟨q, 0, none⟩ = w4.cell? ⟨q, 0, none⟩ := hb5.cell j2
      exact Nat.le_trans HB1.out.size (HGA4.out.2.2 m (by rw [← this]; exact hm))⟩)
    have hq := fun w => gptr_ne w (some ⟨q, 0, none⟩)
    clear hb5 hbi HMY HGA4 HB4
    go_wp2
    go_ret2
    exact ⟨.inl ⟨q, rfl, HGA5.out⟩, HB5.out⟩
  · have HLK := hide_ (newD_none hD)
    clear hD
    go_wp2_with fail
    refine HKP.out.mono ?_
    rintro e w3 ⟨rfl, hb3⟩
    have HO3 := hide_ (HO2.out.below hb3)
    have HB3 := hide_ (HB2.out.trans (hb3.mono HB2.out.size))
    have HOV := hide_ (OverGrants_any g (n + 64) cg w.heap.size (l ++ marksG 64) w3 (by have := HN.out; omega) (by rw [List.length_append, marksG_len, HL.out]) HO3.out HB3.out.size)
    clear hb3 HKP HO2 HB2
    go_wp2_with fail
    refine HOV.out.mono ?_
    rintro e w4 ⟨rfl, hb4, _⟩
    have HB4 := hide_ (HB3.out.trans hb4)
    clear hb4 HOV HO3 HB3
    go_wp2_with fail
    refine (HMY.out _ HB4.out).mono ?_
    rintro e w5 ⟨⟨b, rfl, hbi⟩, hb5⟩
    have hbf : b = false := by
      cases b with
      | false => rfl
      | true => exact absurd (hbi.1 rfl) HLK.out
    subst hbf
    have HB5 := hide_ (HB4.out.trans (hb5.mono HB4.out.size))
    have hq := fun w => gptr_eq w none
    clear hb5 hbi HMY HB4
    go_wp2
    go_ret2
    exact ⟨.inr rfl, HB5.out⟩
end Go.Proofs.Ytcfpclhoockcfaa
