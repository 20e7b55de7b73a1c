/-
  The walk of the statement MemPlays.
-/
import Derived.Test.YtgppbdcnpailaaaApartA
import Derived.Test.YtgppbdcnpailaaaLogsWalk
namespace Go.Proofs.Ytgppbdcnpailaaa
open Go.RowKit
set_option linter.unusedVariables false
set_option linter.unusedSimpArgs false

set_option maxRecDepth 100000 in
set_option maxHeartbeats 4000000 in
theorem MemPlays_walk (As : Option Addr) (ns cs : Nat) (f : Nat → StepV) (w : World) (hsc : SReads w w.heap.size As ns f) (hns : ns ≤ 4398046511000) :
    Calls Try.prog 14 #[.slice As ns cs] w fun e w' => e = .returned (.bool true) ∧ Below w.heap.size w w' := by
  have HSC := hide_ hsc
  have hI0 := (inv0 w).below ((Below.refl _ _).alloc (Nat.le_refl _) (.cells (stepCells (x0 8)).toArray 79))
  have H1 := hide_ (step_any (x0 8) w.heap.size (x0_ok ((w.alloc (.cells worldZ 89)).alloc (.cells (stepCells (x0 8)).toArray 79)) w.heap.size 8 (by omega) (by omega)) (Nat.le_refl _) hI0 (by omega) 0 0 rfl rfl)
  have HB1 := hide_ (show Below w.heap.size w ((w.alloc (.cells worldZ 89)).alloc (.cells (stepCells (x0 8)).toArray 79)) from ((Below.refl _ _).alloc (Nat.le_refl _) _).alloc (by simp) _)
  unfold worldZ x0 stepCells at H1
  unfold worldZ x0 stepCells at HB1
  clear hI0 hsc
  have hm := mptr_eq
  go_enter Try.func14, Try.ntmps14
  go_wp2_with fail
  refine H1.out.mono ?_
  rintro e w2 ⟨rfl, ⟨st2, hI2, hsv⟩, hb2⟩
  obtain ⟨sv, hs2⟩ := hsv (by trivial) (by simp) (by simp)
  obtain ⟨p0, p4, pq⟩ := hI2.ptr0 hs2
  have HK4 := hide_ hI2
  have HB4 := hide_ (HB1.out.trans hb2)
  clear hI2 hb2 H1 HB1 hsv hs2
  simp only [mA] at p0
  obtain ⟨q, hq⟩ : ∃ q, q = w.heap.size := ⟨_, rfl⟩
  have HQ := hide_ hq
  rw [← hq] at p0 p4 pq ⊢
  clear hq
  go_wp2
  go_loopw [19] (fun i wr => ∃ k : Nat, k ≤ ns ∧ i = .int .i64 k ∧ (∃ st, Inv wr w.heap.size q (k + 1) st []) ∧ Below w.heap.size w wr) (fun i _ => ns - (intOf i).toNat)
  case atStart => exact ⟨0, Nat.zero_le _, rfl, ⟨_, by rw [HQ.out]; exact HK4.out⟩, HB4.out⟩
  case round =>
    clear HK4 HB4 p0 p4 pq
    obtain ⟨k, hk, rfl, ⟨st, hI⟩, hb⟩ := hrel
    by_cases hlt : k < ns
    · have d1 : decide (k < ns) = true := by simp; omega
      obtain ⟨ad, rfl, hab, hj⟩ := HSC.out.below hb (by omega)
      obtain ⟨hok, hc⟩ := hj k hlt
      obtain ⟨⟨dd, sa, sb, p, v, n, sn, A, l, cc, zs⟩, hx⟩ : ∃ x, x = f k := ⟨_, rfl⟩
      rw [← hx] at hok hc
      have e0 : (ad.add (k * 8)).add 0 = ad.add (k * 8) := by simp [Addr.add]
      have eN : ∀ i, 0 < i → (ad.add (k * 8)).add i = ⟨(ad.add (k * 8)).block, (ad.add (k * 8)).off + i, none⟩ := fun i hi => by unfold Addr.add; simp; omega
      have hbk : (ad.add (k * 8)).block < wr.heap.size := by rw [block_of_add]; have := hb.size; omega
      have q0 := hc 0 _ rfl
      have q1 := hc 1 _ rfl
      have q2 := hc 2 _ rfl
      have q3 := hc 3 _ rfl
      have q4 := hc 4 _ rfl
      have q5 := hc 5 _ rfl
      have q6 := hc 6 _ rfl
      have q7 := hc 7 _ rfl
      rw [e0] at q0
      rw [eN _ (by omega)] at q1 q2 q3 q4 q5 q6 q7
      simp only at q0 q1 q2 q3 q4 q5 q6 q7
      have hok' := hok
      obtain ⟨⟨dd0, dd1⟩, ⟨sa0, sa1⟩, ⟨sb0, sb1⟩, g3, g4, g5, g6, g7, g8⟩ := hok'
      simp only at dd0 dd1 sa0 sa1 sb0 sb1 g3 g4 g5 g6 g7 g8
      obtain ⟨na, hna⟩ : ∃ na : Nat, sa % 4 = (na : Int) := Int.eq_ofNat_of_zero_le (by omega)
      obtain ⟨nb, hnb⟩ : ∃ nb : Nat, sb % 4 = (nb : Int) := Int.eq_ofNat_of_zero_le (by omega)
      have HST := hide_ (show ∀ W3, Below wr.heap.size wr W3 → Calls Try.prog 52 #[.pointer (some ⟨q, 0, none⟩), .agg (stepCells ⟨dd, sa, sb, p, v, n, sn, A, l, cc, zs⟩).toArray] W3 fun e W' => e = .returned (.bool true) ∧ (∃ st', Inv W' w.heap.size q (k + 1 + 1) st' []) ∧ Below w.heap.size W3 W' from fun W3 h3 => by
        refine (step_any ⟨dd, sa, sb, p, v, n, sn, A, l, cc, zs⟩ w.heap.size ⟨⟨dd0, dd1⟩, ⟨sa0, sa1⟩, ⟨sb0, sb1⟩, g3, g4, g5, g6.below (h3.mono hb.size), g7, g8⟩ (Nat.le_refl _) (hI.below h3) (by omega) na nb hna hnb).mono ?_
        rintro e W' ⟨rfl, ⟨st', hi, _⟩, hb'⟩
        exact ⟨rfl, ⟨st', hi⟩, hb'⟩)
      have HA1 := hide_ (show Below wr.heap.size wr (wr.alloc (.cells (stepCells ⟨dd, sa, sb, p, v, n, sn, A, l, cc, zs⟩).toArray 79)) from (Below.refl _ _).alloc (Nat.le_refl _) _)
      have HBS := hide_ hb.size
      have HB := hide_ hb
      unfold stepCells at HST HA1
      clear hj hc hx e0 eN hI hok g3 g4 g5 g6 g7 g8 hb hab dd0 dd1 sa0 sa1 sb0 sb1 hna hnb
      go_wp2_with fail
      refine (HST.out _ HA1.out).mono ?_
      rintro e w6 ⟨rfl, ⟨st6, hI6⟩, hb6⟩
      have HI6 := hide_ hI6
      have HB6 := hide_ (show Below w.heap.size w w6 from (HB.out.trans (HA1.out.mono HBS.out)).trans hb6)
      clear hI6 hb6 HST HB HA1 q0 q1 q2 q3 q4 q5 q6 q7 hbk
      go_wp2
      go_roundw
      case rel => exact ⟨k + 1, by omega, by go_num, ⟨_, HI6.out⟩, HB6.out⟩
      case measure => simp [intOf]; omega
    · obtain rfl : k = ns := by omega
      have HB := hide_ hb
      have HS := hide_ (stand_any hI)
      have HA := hide_ (fun W2 (h2 : Below wr.heap.size wr W2) => apart_any (hI.below h2) (by omega))
      clear hI hb
      go_wp2_with fail
      refine HS.out.mono ?_
      rintro e w3 ⟨rfl, hb3⟩
      have H3 := hide_ (HA.out _ hb3)
      have HB3 := hide_ (HB.out.trans (hb3.mono HB.out.size))
      clear HA HS hb3
      go_wp2_with fail
      refine H3.out.mono ?_
      rintro e w4 ⟨rfl, hb4⟩
      have HB4 := hide_ (HB3.out.trans hb4)
      clear hb4 H3
      go_wp2
      go_ret
      exact ⟨rfl, HB4.out⟩
set_option maxRecDepth 100000 in
theorem MemPlays_raw {H : Type} {enc : TypeId × Value → H} {base : Nat} (v : Value) (w : World)
    (hv : Value.okWide Try.prog w .any base 77 v) (h : Seen enc Try.prog w true 77 v.cells.toList) :
    Calls Try.prog 14 #[v] w fun e w' => e = .returned (.bool true) ∧ Below w.heap.size w w' := by
  obtain ⟨A2, n2, c2, rfl⟩ := Go.WideShapes.okWide_slice Try.underlying77 hv
  obtain ⟨A3, n3, c3, f, he, h1, h2, h3⟩ := seen_script h
  simp [Value.cells] at he
  obtain ⟨rfl, rfl, rfl⟩ := he
  clear hv h
  exact MemPlays_walk A2 n2 c2 f w h3 (by omega)
end Go.Proofs.Ytgppbdcnpailaaa
