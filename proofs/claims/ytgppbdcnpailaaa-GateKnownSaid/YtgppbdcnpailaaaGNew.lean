/-
  The walk of gate.New.
-/
import Derived.Test.YtgppbdcnpailaaaGLess
import Derived.Deep.RegionHeld3
namespace Go.Proofs.Ytgppbdcnpailaaa
open Go.RowKit Go.Maps

theorem mapAt.drewN {w : World} {m n : Nat} {D : MD} (h : mapAt w m n D) (N : Nat) : mapAt (w.drewN N) m n D := h
def badG (D : MD) (x a : Int) : Bool := Maps.has D (kx x) || decide (2147483647 < x) || decide (a < 0) || decide (15 < a)
def putG (D : MD) (x a : Int) : MD := D.put (kx x) (.lit (.int .i64 a))
def newFrom : MD → List (Int × Int) → Option MD
  | D, [] => some D
  | D, (x, a) :: r => if badG D x a then none else newFrom (putG D x a) r
def newD (l : List (Int × Int)) : Option MD := if 64 < l.length then none else newFrom (.map []) l
def GReads (w : World) (B : Nat) (A : Option Addr) (n : Nat) (l : List (Int × Int)) : Prop :=
  l.length = n ∧ (0 < n → ∃ ad, A = some ad ∧ ad.block < B ∧ ∀ j x a, l[j]? = some (x, a) → w.cell? (ad.add (j * 2)) = some (.int .u32 x) ∧ w.cell? ⟨(ad.add (j * 2)).block, (ad.add (j * 2)).off + 1, none⟩ = some (.int .i64 a))
theorem GReads.below {w w' : World} {B n : Nat} {A : Option Addr} {l : List (Int × Int)} (h : GReads w B A n l) (hb : Below B w w') : GReads w' B A n l :=
  ⟨h.1, fun hn => by
    obtain ⟨ad, e, hlt, hj⟩ := h.2 hn
    exact ⟨ad, e, hlt, fun j x a hx => ⟨(hb.cell (by rw [block_of_add]; exact hlt)).trans (hj j x a hx).1, (hb.cell (p := ⟨(ad.add (j * 2)).block, (ad.add (j * 2)).off + 1, none⟩) (by show (ad.add (j * 2)).block < B; rw [block_of_add]; exact hlt)).trans (hj j x a hx).2⟩⟩⟩
theorem GReads.more {w : World} {B B' n : Nat} {A : Option Addr} {l : List (Int × Int)} (h : GReads w B A n l) (hB : B ≤ B') : GReads w B' A n l :=
  ⟨h.1, fun hn => by
    obtain ⟨ad, e, hlt, hj⟩ := h.2 hn
    exact ⟨ad, e, by omega, hj⟩⟩
set_option maxRecDepth 100000 in
set_option maxHeartbeats 1000000 in
theorem New_gany (A : Option Addr) (n c : Nat) (l : List (Int × Int)) (B : Nat) (w : World) (hr : GReads w B A n l) (hB : B ≤ w.heap.size) (hwf : ∀ t ∈ l, (Lit.int .u32 t.1).wf = true ∧ (Lit.int .i64 t.2).wf = true) :
    Calls Try.prog 29 #[.slice A n c] w fun e w' => ((∃ D q, newD l = some D ∧ e = .returned (.tuple #[.pointer (some ⟨q, 0, none⟩), .int .i64 0]) ∧ GateAt w' q D ∧ w.heap.size ≤ q) ∨ (newD l = none ∧ e = .returned (.tuple #[.pointer none, .int .i64 160]))) ∧ Below w.heap.size w w' := by
  have hl := hr.1
  have HR := hide_ hr
  have HL := hide_ hl
  have HWF := hide_ hwf
  have HBB := hide_ hB
  by_cases hbig : 64 < n
  · have d1 : decide ((64 : Int) < (n : Int)) = true := by simp; omega
    have HN := hide_ (show newD l = none by unfold newD; rw [if_pos (by omega)])
    clear hr hl hwf hB hbig
    go_enter Try.func29, Try.ntmps29
    go_wp2
    go_ret2
    exact ⟨.inr ⟨HN.out, rfl⟩, Below.refl _ _⟩
  · have d1 : decide ((64 : Int) < (n : Int)) = false := by simp; omega
    have HN := hide_ (show newD l = newFrom (.map []) l by unfold newD; rw [if_neg (by omega)])
    have HN64 := hide_ (show n ≤ 64 by omega)
    have hmm := @run_makeMap Try.prog
    have HBm : Hid (Below w.heap.size w ((w.alloc (.map #[] 0)).alloc (.cells #[.map (some w.heap.size)] 103))) := hide_ (((Below.refl _ _).alloc (Nat.le_refl _) _).alloc (by simp) _)
    have HK : Hid (Blk ((w.alloc (.map #[] 0)).alloc (.cells #[.map (some w.heap.size)] 103)) (w.heap.size + 1) 103 #[.map (some w.heap.size)]) := hide_ (by
      have h := Blk.new (w.alloc (.map #[] 0)) 103 #[.map (some w.heap.size)]
      rw [World.size_alloc] at h
      exact h)
    have HO : Hid (mapAt ((w.alloc (.map #[] 0)).alloc (.cells #[.map (some w.heap.size)] 103)) w.heap.size 0 (.map [])) := hide_ ((World.ownsMap_made w Try.prog 23 (plainElem Try.prog 3)).alloc _)
    clear hr hl hwf hB hbig
    go_enter Try.func29, Try.ntmps29
    go_wp2
    go_loopw [17] (fun i wr => ∃ (k : Nat) (D : MD), k ≤ n ∧ i = .int .i64 k ∧ Blk wr (w.heap.size + 1) 103 #[.map (some w.heap.size)] ∧ mapAt wr w.heap.size k D ∧ newFrom (.map []) l = newFrom D (l.drop k) ∧ Below w.heap.size w wr) (fun i _ => n - (intOf i).toNat)
    case atStart => exact ⟨0, _, Nat.zero_le _, rfl, HK.out, HO.out, rfl, HBm.out⟩
    case round =>
      clear HK HO HBm
      obtain ⟨k, D, hk, rfl, hq, hm, hn, hb⟩ := hrel
      by_cases hlt : k < n
      · have hkl : k < l.length := by rw [HL.out]; exact hlt
        obtain ⟨⟨x, a⟩, hx⟩ : ∃ t, l[k]? = some t := ⟨_, List.getElem?_eq_getElem hkl⟩
        obtain ⟨ad, rfl, hab, hc⟩ := (HR.out.below (hb.mono HBB.out)).2 (by omega)
        obtain ⟨c0, c1⟩ := hc k x a hx
        obtain ⟨wx, wa⟩ := HWF.out _ (List.mem_of_getElem? hx)
        simp only at wx wa
        have hstep : newFrom (.map []) l = if badG D x a then none else newFrom (putG D x a) (l.drop (k + 1)) := by
          rw [hn, List.drop_eq_getElem_cons hkl]
          rw [List.getElem?_eq_getElem hkl] at hx
          rw [Option.some.inj hx]
          rfl
        have HST := hide_ hstep
        have hbk : (ad.add (k * 2)).block < wr.heap.size := by rw [block_of_add]; have := hb.size; have := HBB.out; omega
        have hb2 := hb.alloc hb.size (.cells #[.int .u32 x, .int .i64 a] 95)
        have hq2 := hq.alloc (.cells #[.int .u32 x, .int .i64 a] 95)
        have hm2 : mapAt (wr.alloc (.cells #[.int .u32 x, .int .i64 a] 95)) w.heap.size k D := hm.alloc _
        have hk2 := Blk.new wr 95 #[.int .u32 x, .int .i64 a]
        have HB2 := hide_ hb2
        have HQ2 := hide_ hq2
        have HM2 := hide_ hm2
        have HK2 := hide_ hk2
        obtain ⟨v, hv, _⟩ := val_ex hm2 x wx
        have HV := hide_ hv
        clear hb hq hm hn hb2 hq2 hm2 hk2 hstep hc hx hv hab
        go_wp2
        have p0 := HK2.out.cell 0
        have p1 := HK2.out.cell 1
        have pl := HK2.out.lt
        have q0 := HQ2.out.cell 0
        have ql := HQ2.out.lt
        have lk : ∀ N, (Instr.lookup 101 (.map (some w.heap.size)) (.int .u32 x) true).run Try.prog ((wr.alloc (.cells #[.int .u32 x, .int .i64 a] 95)).drewN N) = _ := fun N => look_run (HM2.out.drewN N) x v wx HV.out
        generalize (wr.alloc (.cells #[.int .u32 x, .int .i64 a] 95)) = w5 at p0 p1 pl q0 ql lk HB2 HQ2 HM2 HK2 ⊢
        go_quiet (fail)
        clear lk
        have HB6 : Hid (Below w.heap.size w (w5.drewN nq)) := hide_ (below_draws2 HB2.out nq)
        have p0 : (w5.drewN nq).cell? ⟨wr.heap.size, 0, none⟩ = some (.int .u32 x) := p0
        have p1 : (w5.drewN nq).cell? ⟨wr.heap.size, 1, none⟩ = some (.int .i64 a) := p1
        have pl : wr.heap.size < (w5.drewN nq).heap.size := pl
        have q0 : (w5.drewN nq).cell? ⟨w.heap.size + 1, 0, none⟩ = some (.map (some w.heap.size)) := q0
        have ql : w.heap.size + 1 < (w5.drewN nq).heap.size := ql
        have HQ6 : Hid (Blk (w5.drewN nq) (w.heap.size + 1) 103 #[.map (some w.heap.size)]) := hide_ (HQ2.out.drewN nq)
        have HM6 : Hid (mapAt (w5.drewN nq) w.heap.size k D) := hide_ (HM2.out.drewN nq)
        clear HB2 HQ2 HM2 HK2
        generalize w5.drewN nq = w6 at p0 p1 pl q0 ql HB6 HQ6 HM6 ⊢
        obtain ⟨hs, hhs⟩ : ∃ hs, hs = Maps.has D (kx x) := ⟨_, rfl⟩
        rw [← hhs]
        have hbad : badG D x a = (hs || decide (2147483647 < x) || decide (a < 0) || decide (15 < a)) := by rw [hhs]; rfl
        have HHS := hide_ hhs
        have HBAD := hide_ hbad
        clear hhs hbad
        by_cases hgood : hs = false ∧ decide (2147483647 < x) = false ∧ decide (a < 0) = false ∧ decide (15 < a) = false
        · obtain ⟨rfl, e1, e2, e3⟩ := hgood
          have HB0 := hide_ (show badG D x a = false by rw [HBAD.out, e1, e2, e3]; rfl)
          go_wp2
          obtain ⟨w7, hrun, o7, g7⟩ := World.ownsMap.update (w := w6.drew) (HM6.out.drewN 1) K32 Try.underlying101 (show k < maxLen by have := HN64.out; unfold maxLen; omega) (keyOf_int_mk Try.underlying23 wx) (plainElem_int Try.underlying3 wa)
          go_region
          have hq7 : Blk w7 (w.heap.size + 1) 103 #[.map (some w.heap.size)] := (HQ6.out.drewN 1).grown g7 (by simp)
          have hb7 : Below w.heap.size w w7 := (below_draws2 HB6.out 1).grown g7 HB6.out.size (fun j hj => by cases hj; exact Nat.le_refl _)
          have HO7 := hide_ (show mapAt w7 w.heap.size (k + 1) (putG D x a) from o7)
          have HEND := hide_ (show newFrom (.map []) l = newFrom (putG D x a) (l.drop (k + 1)) by rw [HST.out, HB0.out]; rfl)
          have HQ7 := hide_ hq7
          have HB7 := hide_ hb7
          have hn64 := HN64.out
          clear o7 g7 hrun hq7 hb7
          go_wp2
          go_roundw
          case rel => exact ⟨k + 1, _, by omega, by go_num, HQ7.out, HO7.out, HEND.out, HB7.out⟩
          case measure => simp [intOf]; omega
        · have HEND := hide_ (show newD l = none by
            rw [HN.out, HST.out, if_pos]
            rw [HBAD.out]
            revert hgood
            cases hs <;> cases decide (2147483647 < x) <;> cases decide (a < 0) <;> cases decide (15 < a) <;> simp)
          have hways : hs = true ∨ (hs = false ∧ decide (2147483647 < x) = true) ∨ (hs = false ∧ decide (2147483647 < x) = false ∧ decide (a < 0) = true) ∨ (hs = false ∧ decide (2147483647 < x) = false ∧ decide (a < 0) = false ∧ decide (15 < a) = true) := by
            revert hgood
            cases hs <;> cases decide (2147483647 < x) <;> cases decide (a < 0) <;> cases decide (15 < a) <;> simp
          clear hgood
          rcases hways with rfl | ⟨rfl, e1⟩ | ⟨rfl, e1, e2⟩ | ⟨rfl, e1, e2, e3⟩
          all_goals
            go_wp2
            go_ret2
            exact ⟨.inr ⟨HEND.out, rfl⟩, HB6.out⟩
      · obtain rfl : k = n := by omega
        rw [List.drop_of_length_le (by rw [HL.out]; omega)] at hn
        have HQ := hide_ hq
        have q0 := hq.cell 0
        have ql := hq.lt
        have HEND := hide_ (show newD l = some D by rw [HN.out, hn]; rfl)
        have HB := hide_ hb
        have HM := hide_ hm
        clear hq hb hm hn
        go_wp2
        go_ret2
        exact ⟨.inl ⟨D, _, HEND.out, rfl, ⟨w.heap.size, k, q0, ql, by omega, HM.out, HN64.out⟩, Nat.le_succ _⟩, HB.out⟩
end Go.Proofs.Ytgppbdcnpailaaa
