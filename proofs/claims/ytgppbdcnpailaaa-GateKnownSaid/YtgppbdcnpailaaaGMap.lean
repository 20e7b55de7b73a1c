/-
  A gate: a struct with a map of words by numbers. made, Within, Less.
-/
import Derived.Test.YtgppbdcnpailaaaApply
import Derived.Maps.RangeWalk
import Derived.Maps.OwnSet
import Derived.Maps.OwnOps
import Derived.Laws.Externs
import Derived.MapKept
import Derived.Shelf.SlMaps.Clone
namespace Go.Proofs.Ytgppbdcnpailaaa
open Go.RowKit Go.Maps

abbrev MD := DataW Unit
theorem K32 : Keyed Try.prog 23 := int_keyed Try.underlying23
def z0 : MD := .lit (.int .i64 0)
def kx (x : Int) : Lit := .int .u32 x
def mapAt (w : World) (m n : Nat) (D : MD) : Prop := w.ownsMap Try.prog 23 (plainElem Try.prog 3) m n D
theorem mapAt.below {w w' : World} {B m n : Nat} {D : MD} (h : mapAt w m n D) (hb : Below B w w') (hm : m < B) : mapAt w' m n D := by
  obtain ⟨es, clock, h1, h2⟩ := h
  exact ⟨es, clock, (hb.block m hm).trans h1, h2⟩
/-- a gate's cell, and its map -/
def GateAt (w : World) (q : Nat) (D : MD) : Prop := ∃ m n, w.cell? ⟨q, 0, none⟩ = some (.map (some m)) ∧ q < w.heap.size ∧ m < w.heap.size ∧ mapAt w m n D ∧ n ≤ 64
theorem GateAt.below {w w' : World} {q : Nat} {D : MD} (h : GateAt w q D) (hb : Below w.heap.size w w') : GateAt w' q D := by
  obtain ⟨m, n, h1, h2, h3, h4, h5⟩ := h
  exact ⟨m, n, (hb.cell (p := ⟨q, 0, none⟩) h2).trans h1, Nat.lt_of_lt_of_le h2 hb.size, Nat.lt_of_lt_of_le h3 hb.size, h4.below hb h3, h5⟩
theorem zero_int (w : World) : (zeroValue 3).run Try.prog w = .ok (.int .i64 0) w := by kernel_rfl
theorem wf_z0 : (Lit.int .i64 0).wf = true := by kernel_rfl
/-- what stands at a number -/
theorem val_ex {w : World} {m n : Nat} {D : MD} (h : mapAt w m n D) (x : Int) (hx : (Lit.int .u32 x).wf = true) : ∃ c : Int, D.atKey (kx x) z0 = .lit (.int .i64 c) ∧ (Lit.int .i64 c).wf = true := by
  obtain ⟨v, ps, _, hv⟩ := World.ownsMap.look_ok h K32 Try.underlying101 (zero_int w) (plainElem_int Try.underlying3 wf_z0) (keyOf_int_mk Try.underlying23 hx)
  obtain ⟨c, rfl, hc, hwc⟩ := plainElem_int_inv Try.underlying3 hv
  exact ⟨c, congrArg Prod.fst hc, hwc⟩
theorem look_run {w : World} {m n : Nat} {D : MD} (h : mapAt w m n D) (x c : Int) (hx : (Lit.int .u32 x).wf = true) (hc : D.atKey (kx x) z0 = .lit (.int .i64 c)) :
    (Instr.lookup 101 (.map (some m)) (.int .u32 x) true).run Try.prog w = .ok (.tuple #[.int .i64 c, .bool (Maps.has D (kx x))]) w := by
  obtain ⟨v, ps, hrun, hv⟩ := World.ownsMap.look_ok h K32 Try.underlying101 (zero_int w) (plainElem_int Try.underlying3 wf_z0) (keyOf_int_mk Try.underlying23 hx)
  obtain ⟨c', rfl, hc', _⟩ := plainElem_int_inv Try.underlying3 hv
  have e : DataW.lit (H := Unit) (.int .i64 c) = .lit (.int .i64 c') := hc.symm.trans (congrArg Prod.fst hc')
  have e2 : c = c' := congrArg (fun d : MD => match d with | .lit (.int _ a) => a | _ => 0) e
  rw [e2]
  exact hrun

/-! ### Within -/
def Inn (D1 D2 : MD) (x : Int) : Prop := Maps.has D2 (kx x) = true ∧ D1.atKey (kx x) z0 = D2.atKey (kx x) z0
def WithinP (D1 D2 : MD) : Prop := ∀ x, (Lit.int .u32 x).wf = true → Maps.has D1 (kx x) = true → Inn D1 D2 x
def SoFar (D1 D2 : MD) (left : Lit → Bool) : Prop := ∀ x, (Lit.int .u32 x).wf = true → Maps.has D1 (kx x) = true → left (kx x) = false → Inn D1 D2 x
set_option maxRecDepth 100000 in
theorem Within_any (q1 q2 : Nat) (D1 D2 : MD) (w : World) (h1 : GateAt w q1 D1) (h2 : GateAt w q2 D2) :
    Calls Try.prog 28 #[.pointer (some ⟨q1, 0, none⟩), .pointer (some ⟨q2, 0, none⟩)] w fun e w' => ∃ b, e = .returned (.bool b) ∧ (b = true ↔ WithinP D1 D2) ∧ Below w.heap.size w w' := by
  obtain ⟨m1, n1, c1, l1, s1, o1, _⟩ := h1
  obtain ⟨m2, n2, c2, l2, s2, o2, _⟩ := h2
  have g1 := gmade_any q1 m1 w c1
  have g2 := gmade_any q2 m2 w c2
  have O2 := hide_ o2
  clear o2
  go_enter Try.func28, Try.ntmps28
  go_wp2_with fail
  refine g1.mono ?_
  rintro e w' ⟨rfl, hw⟩
  subst w'
  go_wp2_with (first
    | (go_at_call 72; refine g2.mono ?_; rintro e w' ⟨rfl, hw⟩; subst w')
    | (at_range; refine wpList_range_own _ rfl _ 101 rfl 23 3 K32 Try.underlying101 _ m1 n1 _ rfl o1 ?_; intro w0 hrg0 hg0 hs0)
    | go_in)
  go_frame
  go_loopw [5] (fun _ wr => ∃ (left : Lit → Bool) (cnt : Nat), wr.ranges Try.prog 23 (plainElem Try.prog 3) m1 w.heap.size n1 D1 left cnt ∧ Below w.heap.size w wr ∧ SoFar D1 D2 left) (fun _ wr => wr.rangeLeft m1 w.heap.size)
  case atStart => exact ⟨_, _, hrg0, (Below.refl _ _).grown hg0 (Nat.le_refl _) (fun j hj => by cases hj), fun x _ h1 h2 => by rw [h1] at h2; cases h2⟩
  case round =>
    obtain ⟨left, cnt, hrg, hb, hso⟩ := hrel
    have HSO := hide_ hso
    have HB := hide_ hb
    clear hso hb
    go_wp2_with (first
      | (at_next; refine wpList_next_ranges_ii _ rfl _ rfl 23 3 .u32 .i64 K32 Try.underlying23 Try.underlying3 m1 w.heap.size n1 _ _ _ rfl hrg ?_ ?_)
      | go_in)
    · intro _ hl0
      go_wp2
      go_ret
      exact ⟨true, rfl, by simp; exact fun x h1 h2 => HSO.out x h1 h2 (hl0 _), HB.out⟩
    · intro x c w1 cnt1 hwx hwc hlx hat hrg1 hlt hg1 hs1 hen
      have hb1 : Below w.heap.size w w1 := HB.out.grown hg1 HB.out.size (fun j hj => by cases hj; exact Nat.le_refl _)
      have hO2 := O2.out.below hb1 s2
      obtain ⟨c', hc', hwc'⟩ := val_ex hO2 x hwx
      have hlk := look_run hO2 x c' hwx hc'
      have hq2 : w1.cell? ⟨q2, 0, none⟩ = some (.map (some m2)) := (hb1.cell (p := ⟨q2, 0, none⟩) l2).trans c2
      have HB1 := hide_ hb1
      have HO2 := hide_ hO2
      clear hb1 hO2
      cases hh : Maps.has D2 (kx x) with
      | false =>
        rw [hh] at hlk
        go_wp2
        go_ret
        refine ⟨false, rfl, ?_, HB1.out⟩
        simp only [Bool.false_eq_true, false_iff]
        intro hW
        have := (hW x hwx (has_true_of_atKey hat)).1
        rw [hh] at this
        cases this
      | true =>
        rw [hh] at hlk
        by_cases hcc : c' = c
        · subst hcc
          have d1 : (c' != c') = false := by simp
          go_wp2
          go_roundw
          case rel =>
            refine ⟨_, cnt1, hrg1, HB1.out, fun x' h1 h2 h3 => ?_⟩
            by_cases hl : left (kx x') = false
            · exact HSO.out x' h1 h2 hl
            · have hs : (kx x').sameKey (.int .u32 x) = true := by
                revert h3 hl
                simp only [Bool.and_eq_false_imp, Bool.not_eq_false']
                exact fun h3 hl => h3 (by simpa using hl)
              have e := WideAt.sameKey_eq hs
              have e2 : x' = x := congrArg (fun d : Lit => match d with | .int _ a => a | _ => 0) e
              subst e2
              exact ⟨hh, (hat z0).trans hc'.symm⟩
          case measure => rw [hrg1.left_eq, hrg.left_eq]; exact hlt
        · have d1 : (c' != c) = true := by simpa using hcc
          go_wp2
          go_ret
          refine ⟨false, rfl, ?_, HB1.out⟩
          simp only [Bool.false_eq_true, false_iff]
          intro hW
          have h2 := (hW x hwx (has_true_of_atKey hat)).2
          have h3 : DataW.lit (H := Unit) (.int .i64 c) = .lit (.int .i64 c') := ((hat z0).symm.trans h2).trans hc'
          exact hcc (congrArg (fun d : MD => match d with | .lit (.int _ a) => a | _ => 0) h3).symm

/-! ### Less -/
set_option maxRecDepth 100000 in
theorem mapsClone_any (m n : Nat) (D : MD) (w : World) (h : mapAt w m n D) (hm : m < w.heap.size) : Calls Try.prog 73 #[.map (some m)] w fun e w' => e = .returned (.map (some w.heap.size)) ∧ mapAt w' w.heap.size n D ∧ Below w.heap.size w w' := by
  have hlt := hm
  obtain ⟨es, clock, hb, F, hs, hD⟩ := h
  have hq := fun w => run_eql_map_nil_sl (P := Try.prog) w 101 _ _ (some m) Try.underlying101
  go_enter Try.func73, Try.ntmps73
  go_wp2
  rw [run_callFunc_extern Try.func109 (by kernel_rfl) (by kernel_rfl) (by kernel_rfl) (e := Extern.MapsClone.clone) (by kernel_rfl), run_maps_clone_sl w 101 hb]
  simp only [Result.andThen]
  rw [Oper.upon_value]
  go_wp2
  rw [run_typeAssert_map_sl _ 101 20 _ _ _ Try.underlying101]
  simp only [Result.andThen]
  rw [Oper.upon_value]
  go_wp2
  go_ret
  exact ⟨rfl, ⟨es, clock, (MapKept.heap_alloc w _).1, F, hs, hD⟩, (Below.refl _ w).alloc (Nat.le_refl _) _⟩
end Go.Proofs.Ytgppbdcnpailaaa
