/-
  ListDumps: the rows of every string of bytes are the document's.
-/
import Derived.Test.YtikbegmodacopaaGreatDoorRDmpD
import Derived.Test.YtikbegmodacopaaGreatDoorB27
namespace Go.Proofs.YtikbegmodacopaaGreatDoor
open Go.RowKit Go.PlainAid Go.BigFrame Go.Shelf
set_option linter.unusedSimpArgs false
set_option linter.unusedVariables false
set_option maxRecDepth 100000
theorem reads_pre {w : World} {B n k : Nat} {A : Option Addr} {xs : List Value} (h : Reads w B 1 A n xs) (hk : k ≤ n) : Reads w B 1 A k (xs.take k) := by
  have hl : xs.length = n := by simpa using h.1
  refine ⟨by simp; omega, fun hp => ?_⟩
  obtain ⟨ad, e, hb, hc⟩ := h.2 (by omega)
  refine ⟨ad, e, hb, fun j v hj => hc j v ?_⟩
  have hjk : j < k := by
    have := (List.getElem?_eq_some_iff.1 hj).1
    simp at this
    omega
  rw [List.getElem?_take_of_lt hjk] at hj
  exact hj
set_option maxHeartbeats 4000000 in
theorem ListDumps_any (A : Option Addr) (n c : Nat) (xs : List Int) (w : World) (ha : Reads w w.heap.size 1 A n (u8s xs)) (hx : isBytes xs) (hn : n ≤ 140737488351232) (hT : TabOk w) (hU : BruOk w) :
    Calls Tryz.prog 6 #[.slice A n c] w fun e w' => e = .returned (.bool true) ∧ Below w.heap.size w w' := by
  have la : xs.length = n := by simpa using ha.1
  have HT := hide_ (fun W (hb : Below w.heap.size w W) => hT.below hb)
  have HU := hide_ (fun W (hb : Below w.heap.size w W) => hU.below hb)
  have HR := hide_ (fun W (hb : Below w.heap.size w W) => (ha.below hb).more hb.size)
  have HX := hide_ hx
  have HLB := hide_ (LentBytes_any A n c xs w.heap.size w ha (Nat.le_refl _) hn)
  have HLA := hide_ la
  obtain ⟨S, hS⟩ : ∃ S, S = dumpS xs := ⟨_, rfl⟩
  obtain ⟨E, hE⟩ : ∃ S, S = dumpE xs := ⟨_, rfl⟩
  have HRD := hide_ (fun W (hb : Below w.heap.size w W) => rDump_any A n c xs W (HR.out W hb) hx)
  rw [← hS, ← hE] at HRD
  have HLD := hide_ (fun A' c' W (hr : Reads W W.heap.size 1 A' n (u8s xs)) (hc : n ≤ c') (hb : Below w.heap.size w W) => lDump_any A' n c' xs W hr hc hx (HT.out W hb) (HU.out W hb))
  rw [← hS, ← hE] at HLD
  have HAW := hide_ (fun W (hb : Below w.heap.size w W) => awake_any W (HT.out W hb))
  clear hS hE la ha hx hT hU
  go_enter Tryz.func6, Tryz.ntmps6
  go_wp2_with fail
  refine HLB.out.mono ?_
  rintro e w1 ⟨v, rfl, hown, hb1⟩
  obtain ⟨g, c1, rfl⟩ := ownsRow_some hown (by omega)
  obtain ⟨_, _, hv0, hc0, hc1⟩ := ownsRow_slice hown
  injection hv0 with e1 e2 e3
  subst e3
  clear e1 e2
  have hr1 := reads_pre (Reads.of_own hown) (k := n) (by omega)
  rw [show (u8s (xs ++ marks8 0 0 64)).take n = u8s xs by rw [← List.map_take, List.take_left' HLA.out]] at hr1
  have HO := hide_ (one_row (r := ⟨5, 1, .slice (some ⟨g, 0, none⟩) (n + 64) c1, n + 64, u8s (xs ++ marks8 0 0 64)⟩) hown)
  have HB1 := hide_ hb1
  have LD := hide_ (HLD.out (some ⟨g, 0, none⟩) c1 w1 hr1 (by omega) hb1)
  clear hown hb1 hr1 HLB HLD
  have hnc : n ≤ c1 := by omega
  go_wp2_with fail
  refine LD.out.mono ?_
  rintro e w2 ⟨rfl, hb2⟩
  have HB2 := hide_ (HB1.out.trans (hb2.mono HB1.out.size))
  have HO2 := hide_ (HO.out.below hb2)
  clear hb2 LD HO
  have HKP := hide_ (KeptBytes_any (some ⟨g, 0, none⟩) A (n + 64) c1 n c (xs ++ marks8 0 0 64) xs w2.heap.size w2 (Reads.of_own (HO2.out.at_ (i := 0) rfl)) (HR.out w2 HB2.out) (by unfold maxLen; omega) (by unfold maxLen; omega))
  rw [decide_eq_true rfl] at HKP
  go_wp2_with fail
  refine HKP.out.mono ?_
  rintro e w3 ⟨rfl, nq, rfl⟩
  have HB3 := hide_ (show Below w.heap.size w (w2.drewN nq) from ⟨HB2.out.os, HB2.out.tape, HB2.out.output, HB2.out.size, HB2.out.block⟩)
  obtain ⟨w3, hw3⟩ : ∃ W, W = w2.drewN nq := ⟨_, rfl⟩
  rw [← hw3] at HB3 ⊢
  clear HKP HO2 HB2 hw3
  go_wp2_with fail
  refine (HRD.out w3 HB3.out).mono ?_
  rintro e w4 ⟨rfl, hb4⟩
  have HB4 := hide_ (HB3.out.trans (hb4.mono HB3.out.size))
  clear hb4 HRD HB3
  go_wp2_with fail
  refine (HAW.out w4 HB4.out).mono ?_
  rintro e w5 ⟨rfl, hb5⟩
  have HB5 := hide_ (HB4.out.trans (hb5.mono HB4.out.size))
  clear hb5 HAW HB4
  go_wp2_with fail
  exact bodyPost_ret (v := .bool true) (by simp [results, Tryz.results6, go_sem]) rfl ⟨rfl, HB5.out⟩
end Go.Proofs.YtikbegmodacopaaGreatDoor
