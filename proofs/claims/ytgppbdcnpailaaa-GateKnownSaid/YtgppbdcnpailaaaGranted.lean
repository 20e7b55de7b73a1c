/-
  The walks of gate's Granted, playpenkit.SameGrants; the plain law of Grants.
-/
import Derived.Laws.StructEq
import Derived.Test.YtgppbdcnpailaaaGSome
namespace Go.Proofs.Ytgppbdcnpailaaa
open Go.RowKit Go.Maps

theorem Granted_any (q : Nat) (D : MD) (x : Int) (w : World) (h : GateAt w q D) (hx : (Lit.int .u32 x).wf = true) :
    Calls Try.prog 59 #[.pointer (some ⟨q, 0, none⟩), .int .u32 x] w fun e w' => ∃ c, e = .returned (.tuple #[.int .i64 c, .bool (Maps.has D (kx x))]) ∧ D.atKey (kx x) z0 = .lit (.int .i64 c) ∧ w' = w := by
  obtain ⟨m, n, c1, l1, s1, o1, _⟩ := h
  have g1 := gmade_any q m w c1
  obtain ⟨c, hc, hwc⟩ := val_ex o1 x hx
  have hlk := look_run o1 x c hx hc
  have HC := hide_ hc
  clear hc o1 hwc
  go_enter Try.func59, Try.ntmps59
  go_wp2_with fail
  refine g1.mono ?_
  rintro e w' ⟨rfl, hw⟩
  subst w'
  go_wp2
  go_ret2
  exact ⟨c, rfl, HC.out, rfl⟩

/-! ### Grants -/
/-- a list of grants, rising by number, that tells what the gate grants -/
structure Told (D : MD) (l : List (Int × Int)) : Prop where
  sorted : l.Pairwise fun s t => s.1 < t.1
  ok : ∀ t ∈ l, (Lit.int .u32 t.1).wf = true ∧ (Lit.int .i64 t.2).wf = true ∧ Maps.has D (kx t.1) = true ∧ D.atKey (kx t.1) z0 = .lit (.int .i64 t.2)
  all : ∀ x, (Lit.int .u32 x).wf = true → Maps.has D (kx x) = true → ∃ a, (x, a) ∈ l
/-- what the round has gathered -/
structure Gathered (D : MD) (left : Lit → Bool) (l : List (Int × Int)) : Prop where
  once : l.Pairwise fun s t => s.1 ≠ t.1
  ok : ∀ t ∈ l, (Lit.int .u32 t.1).wf = true ∧ (Lit.int .i64 t.2).wf = true ∧ Maps.has D (kx t.1) = true ∧ D.atKey (kx t.1) z0 = .lit (.int .i64 t.2)
  gone : ∀ t ∈ l, left (kx t.1) = false
  all : ∀ x, (Lit.int .u32 x).wf = true → Maps.has D (kx x) = true → left (kx x) = false → ∃ a, (x, a) ∈ l
theorem Gathered.next {D : MD} {left : Lit → Bool} {l : List (Int × Int)} (h : Gathered D left l) {x c : Int} (hwx : (Lit.int .u32 x).wf = true) (hwc : (Lit.int .i64 c).wf = true) (hl : left (.int .u32 x) = true) (hat : ∀ zd, D.atKey (.int .u32 x) zd = .lit (.int .i64 c)) :
    Gathered D (fun z => left z && !z.sameKey (.int .u32 x)) (l ++ [(x, c)]) := by
  refine ⟨?_, fun t ht => ?_, fun t ht => ?_, fun y hy hhas hgone => ?_⟩
  · rw [List.pairwise_append]
    refine ⟨h.once, List.pairwise_singleton _ _, fun s hs t ht => ?_⟩
    rw [List.mem_singleton.1 ht]
    intro e
    have := h.gone s hs
    have e' : s.1 = x := e
    rw [e'] at this
    have h2 : left (kx x) = true := hl
    rw [h2] at this
    cases this
  · rcases List.mem_append.1 ht with ht | ht
    · exact h.ok t ht
    · rw [List.mem_singleton.1 ht]
      exact ⟨hwx, hwc, has_true_of_atKey hat, hat z0⟩
  · rcases List.mem_append.1 ht with ht | ht
    · simp only [h.gone t ht, Bool.false_and]
    · rw [List.mem_singleton.1 ht]
      have : (kx x).sameKey (.int .u32 x) = true := by simp [kx, Lit.sameKey]
      simp only [this, Bool.not_true, Bool.and_false]
  · by_cases hl2 : left (kx y) = false
    · obtain ⟨a, ha⟩ := h.all y hy hhas hl2
      exact ⟨a, List.mem_append_left _ ha⟩
    · have hs : (kx y).sameKey (.int .u32 x) = true := by
        revert hgone hl2
        simp only [Bool.and_eq_false_imp, Bool.not_eq_false']
        exact fun h3 hl => h3 (by simpa using hl)
      have e := WideAt.sameKey_eq hs
      have e2 : y = x := congrArg (fun d : Lit => match d with | .int _ a => a | _ => 0) e
      subst e2
      exact ⟨c, by simp⟩
theorem sorted_told {D : MD} {l l' : List (Int × Int)} {left : Lit → Bool} (h : Gathered D left l) (hl : ∀ kl, left kl = false) (hp : l'.Perm l) (hs : l'.Pairwise fun s t => s.1 ≤ t.1) : Told D l' := by
  have hno : l'.Pairwise fun s t => s.1 ≠ t.1 := (hp.pairwise_iff (fun {a b} hab => Ne.symm hab)).2 h.once
  refine ⟨?_, fun t ht => h.ok t (hp.mem_iff.1 ht), fun x hx hh => ?_⟩
  · rw [List.pairwise_iff_getElem] at hno hs ⊢
    intro i j hi hj hij
    have h1 := hno i j hi hj hij
    have h2 := hs i j hi hj hij
    omega
  · obtain ⟨a, ha⟩ := h.all x hx hh (hl _)
    exact ⟨a, hp.mem_iff.2 ha⟩
theorem grant_eq (w : World) (x a y b : Int) : (binOp .neq 95 (.agg #[.int .u32 x, .int .i64 a]) (.agg #[.int .u32 y, .int .i64 b])).run Try.prog w = .ok (.bool (!decide ((x, a) = (y, b)))) w := by
  rw [run_neq_struct, run_equalIn_agg _ _ _ _ _ (by kernel_rfl) (by kernel_rfl)]
  have h := @Try.underlying95
  simp only [go_sem, h]
  simp
  go_simp
  by_cases hx : x = y <;> by_cases ha : a = b <;> simp [hx, ha]
theorem take_eq {α : Type} {xs ys : List α} {k : Nat} {x y : α} (hx : xs[k]? = some x) (hy : ys[k]? = some y) (h : xs.take k = ys.take k) : (x = y ↔ xs.take (k + 1) = ys.take (k + 1)) := by
  rw [List.take_add_one, List.take_add_one, hx, hy, h]
  simp
set_option maxHeartbeats 400000 in
theorem SameGrants_any (A A' : Option Addr) (n c n' c' : Nat) (xs ys : List (Int × Int)) (B : Nat) (w : World) (ha : GReads w B A n xs) (hb : GReads w B A' n' ys) (hB : B ≤ w.heap.size) (hn : n ≤ 140737488351232) (hn' : n' ≤ 140737488351232) :
    Calls Try.prog 60 #[.slice A n c, .slice A' n' c'] w fun e w' => e = .returned (.bool (decide (xs = ys))) ∧ ∃ nq, w' = w.drewN nq := by
  have la : xs.length = n := ha.1
  have lb : ys.length = n' := hb.1
  by_cases hne : n = n'
  · subst hne
    have h0 : ((n : Int) != (n : Int)) = false := by simp
    have HA := hide_ ha
    have HB := hide_ hb
    have HL := hide_ (show xs.length = n ∧ ys.length = n from ⟨la, lb⟩)
    have HBB := hide_ hB
    clear ha hb la lb hB
    go_enter Try.func60, Try.ntmps60
    go_wp2
    go_loopw [5] (fun i wr => ∃ k : Nat, k ≤ n ∧ i = .int .i64 k ∧ Hid (xs.take k = ys.take k) ∧ ∃ nq, wr = w.drewN nq) (fun i _ => n - (intOf i).toNat)
    case atStart => exact ⟨0, Nat.zero_le _, rfl, hide_ (by simp), 0, rfl⟩
    case round =>
      obtain ⟨k, hk, rfl, HE, nq, rfl⟩ := hrel
      by_cases hlt : k < n
      · obtain ⟨⟨x, a⟩, hx⟩ : ∃ t, xs[k]? = some t := ⟨_, List.getElem?_eq_getElem (by have := HL.out.1; omega)⟩
        obtain ⟨⟨y, b⟩, hy⟩ : ∃ t, ys[k]? = some t := ⟨_, List.getElem?_eq_getElem (by have := HL.out.2; omega)⟩
        obtain ⟨ad, rfl, hbk, hc⟩ := HA.out.2 (by omega)
        obtain ⟨ad', rfl, hbk', hc'⟩ := HB.out.2 (by omega)
        obtain ⟨c0, c1⟩ := hc k x a hx
        obtain ⟨c2, c3⟩ := hc' k y b hy
        have hbs : (ad.add (k * 2)).block < w.heap.size := by rw [block_of_add]; have := HBB.out; omega
        have hbs' : (ad'.add (k * 2)).block < w.heap.size := by rw [block_of_add]; have := HBB.out; omega
        have H := hide_ (take_eq hx hy HE.out)
        clear hc hc' hx hy hbk hbk'
        have hq := fun w => grant_eq w x a y b
        by_cases he : (x, a) = (y, b)
        · rw [decide_eq_true he] at hq
          have H2 := hide_ (H.out.1 he)
          clear he H
          go_wp2
          go_quiet (fail)
          go_wp2
          go_roundw
          case rel => exact ⟨k + 1, by omega, by go_num, H2, _, rfl⟩
          case measure => simp [intOf]; omega
        · rw [decide_eq_false he] at hq
          have H2 := hide_ (show xs ≠ ys from fun e => he (H.out.2 (by rw [e])))
          clear he H
          go_wp2
          go_quiet (fail)
          go_wp2
          go_ret
          exact ⟨by simp [H2.out], _, World.drewN_drewN _ _ _⟩
      · obtain rfl : k = n := by omega
        have h2 := HE.out
        rw [List.take_of_length_le (by have := HL.out.1; omega), List.take_of_length_le (by have := HL.out.2; omega)] at h2
        have H2 := hide_ h2
        clear h2
        go_wp2
        go_ret
        exact ⟨by simp [H2.out], nq, rfl⟩
  · have h0 : ((n : Int) != (n' : Int)) = true := by simp; omega
    have H := hide_ (show xs ≠ ys by rintro rfl; omega)
    clear ha hb la lb hne
    go_enter Try.func60, Try.ntmps60
    go_wp2
    go_ret
    exact ⟨by simp [H.out], 0, rfl⟩
end Go.Proofs.Ytgppbdcnpailaaa
