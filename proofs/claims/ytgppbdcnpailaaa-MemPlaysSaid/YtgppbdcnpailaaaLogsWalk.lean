/-
  The walk of the statement MemLogs.
-/
import Derived.Deep.CutRange
import Derived.Test.YtgppbdcnpailaaaPairs
namespace Go.Proofs.Ytgppbdcnpailaaa
open Go.RowKit
set_option linter.unusedVariables false
set_option linter.unusedSimpArgs false

def worldZ : Array Value := #[.pointer none, .pointer none, .pointer none, .pointer none, .pointer none, .pointer none, .pointer none, .pointer none, .slice none 0 0, .slice none 0 0, .slice none 0 0, .slice none 0 0]
def st0 : WS := ⟨[none, none, none, none], .slice none 0 0, .slice none 0 0, .slice none 0 0, .slice none 0 0, [], []⟩
theorem inv0 (w : World) : Inv (w.alloc (.cells worldZ 89)) w.heap.size w.heap.size 0 st0 [] := by
  have h1 : Owns (w.alloc (.cells worldZ 89)) w.heap.size ([] ++ [⟨89, 1, .slice (some ⟨w.heap.size, 0, none⟩) worldZ.size worldZ.size, worldZ.size, worldZ.toList⟩]) := (Owns.nil_ (w := w) (B := w.heap.size)).box 89 worldZ (Nat.le_refl _) (by simp [worldZ, maxLen])
  have h2 := (((h1.nilrow 46 1).nilrow 46 1).nilrow 70 1).nilrow 70 1
  exact ⟨h2, by simp, rfl, fun s h => by simp [st0] at h; subst h; trivial, Nat.le_refl _, Nat.le_refl _, (fun a h => by cases h), (fun a h => by cases h)⟩
def x0 (n : Int) : StepV := ⟨0, 0, 0, 0, 0, n, false, none, 0, 0, []⟩
theorem x0_ok (W : World) (Bz : Nat) (n : Int) (h0 : 0 ≤ n) (h1 : n ≤ 20) : StepOk W Bz (x0 n) :=
  ⟨by simp [x0], by simp [x0], by simp [x0], by simp [x0], by simp [x0], by simp [x0]; omega, Reads.none_, (fun x h => by cases h), by simp [x0]⟩
set_option maxRecDepth 100000 in
set_option maxHeartbeats 8000000 in
theorem MemLogs_walk (As : Option Addr) (ns cs : Nat) (f : Nat → StepV) (w : World) (hsc : SReads w w.heap.size As ns f) (hns : ns ≤ 4398046511000) :
    Calls Try.prog 15 #[.slice As ns cs] w fun e w' => e = .returned (.bool true) ∧ Below w.heap.size w w' := by
  have HSC := hide_ hsc
  have hI0 := inv0 w
  have H1 := hide_ (step_any (x0 9) w.heap.size (x0_ok (w.alloc (.cells worldZ 89)) w.heap.size 9 (by omega) (by omega)) (Nat.le_refl _) hI0 (by omega) 0 0 rfl rfl)
  have HB1 := hide_ (show Below w.heap.size w (w.alloc (.cells worldZ 89)) from (Below.refl _ _).alloc (Nat.le_refl _) _)
  unfold worldZ x0 stepCells at H1
  unfold worldZ at HB1
  clear hI0 hsc
  go_enter Try.func15, Try.ntmps15
  go_wp2_with fail
  refine H1.out.mono ?_
  rintro e w2 ⟨rfl, ⟨st2, hI2, _⟩, hb2⟩
  obtain ⟨s2, hs2⟩ := slot_some hI2.len (show 0 < 4 by omega)
  obtain ⟨p0, p4, pq⟩ := hI2.ptr0 hs2
  have H2 := hide_ (log2 hI2 s2 hs2 true)
  have HB2 := hide_ (HB1.out.trans hb2)
  clear hI2 hb2 H1 HB1
  go_wp2_with fail
  refine H2.out.mono ?_
  rintro e w3 ⟨rfl, hb3, ⟨r0, r4, rq⟩, hc3⟩
  have H3 := hide_ hc3
  clear hb3 hc3 H2
  go_wp2_with fail
  refine H3.out.mono ?_
  rintro e w4 ⟨rfl, hb4, hback4⟩
  have HB4 := hide_ (HB2.out.trans hb4)
  have HK4 := hide_ hback4
  clear hb4 hback4 H3 HB2 r0 r4 rq p0 p4 pq hs2
  obtain ⟨q, hq⟩ : ∃ q, q = w.heap.size := ⟨_, rfl⟩
  have HQ := hide_ hq
  rw [← hq] at ⊢
  clear hq
  go_wp2
  go_loopw [20] (fun i wr => ∃ k : Nat, k ≤ ns ∧ i = .int .i64 k ∧ (∃ s, Back wr w.heap.size q (k + 1) s []) ∧ Below w.heap.size w wr) (fun i _ => ns - (intOf i).toNat)
  case atStart => exact ⟨0, Nat.zero_le _, rfl, ⟨_, by rw [HQ.out]; exact HK4.out⟩, HB4.out⟩
  case round =>
    clear HK4 HB4
    obtain ⟨k, hk, rfl, ⟨s, st, s1, hI, hs1, hx5, hx6⟩, hb⟩ := hrel
    clear hx5 hx6
    by_cases hlt : k < ns
    · have d1 : decide (k < ns) = true := by simp; omega
      obtain ⟨ad, rfl, hab, hj⟩ := HSC.out.below hb (by omega)
      obtain ⟨hok, hc⟩ := hj k hlt
      obtain ⟨⟨dd, sa, sb, p, v, n, sn, A, l, cc, zs⟩, hx⟩ : ∃ x, x = f k := ⟨_, rfl⟩
      rw [← hx] at hok hc
      have e0 : (ad.add (k * 8)).add 0 = ad.add (k * 8) := by simp [Addr.add]
      have eN : ∀ i, 0 < i → (ad.add (k * 8)).add i = ⟨(ad.add (k * 8)).block, (ad.add (k * 8)).off + i, none⟩ := fun i hi => by unfold Addr.add; simp; omega
      have hbk : (ad.add (k * 8)).block < wr.heap.size := by rw [block_of_add]; have := hb.size; omega
      have q0 := hc 0 _ rfl
      have q1 := hc 1 _ rfl
      have q2 := hc 2 _ rfl
      have q3 := hc 3 _ rfl
      have q4 := hc 4 _ rfl
      have q5 := hc 5 _ rfl
      have q6 := hc 6 _ rfl
      have q7 := hc 7 _ rfl
      rw [e0] at q0
      rw [eN _ (by omega)] at q1 q2 q3 q4 q5 q6 q7
      simp only at q0 q1 q2 q3 q4 q5 q6 q7
      obtain ⟨⟨dd0, dd1⟩, ⟨sa0, sa1⟩, ⟨sb0, sb1⟩, g3, g4, g5, g6, g7, g8⟩ := hok
      simp only at dd0 dd1 sa0 sa1 sb0 sb1 g3 g4 g5 g6 g7 g8
      obtain ⟨nb, hnb⟩ : ∃ nb : Nat, sb % 4 = (nb : Int) := Int.eq_ofNat_of_zero_le (by omega)
      have HST := hide_ (show ∀ W3 d', Below wr.heap.size wr W3 → 0 ≤ d' → d' < 256 → Calls Try.prog 52 #[.pointer (some ⟨q, 0, none⟩), .agg (stepCells ⟨d', 0, sb, p, v, n, sn, A, l, cc, zs⟩).toArray] W3 fun e W' => e = .returned (.bool true) ∧ (∃ st', Inv W' w.heap.size q (k + 1 + 1) st' []) ∧ Below w.heap.size W3 W' from fun W3 d' h3 hd0 hd1 => by
        refine (step_any ⟨d', 0, sb, p, v, n, sn, A, l, cc, zs⟩ w.heap.size ⟨⟨hd0, hd1⟩, by simp, ⟨sb0, sb1⟩, g3, g4, g5, g6.below (h3.mono hb.size), g7, g8⟩ (Nat.le_refl _) (hI.below h3) (by omega) 0 nb rfl hnb).mono ?_
        rintro e W' ⟨rfl, ⟨st', hi, _⟩, hb'⟩
        exact ⟨rfl, ⟨st', hi⟩, hb'⟩)
      have HB := hide_ hb
      have HBS := hide_ hb.size
      unfold stepCells at HST
      clear hj hc hx e0 eN hI hs1 g3 g4 g5 g6 g7 g8 hb hab
      have hbx : wr.heap.size < (wr.alloc (.cells (stepCells ⟨dd, sa, sb, p, v, n, sn, A, l, cc, zs⟩).toArray 79)).heap.size := by simp
      unfold stepCells at hbx
      go_upto_region 10 with (fail)
      go_cut [53] from 21 to 68 (fun c wx => (∃ b, c = .bool b) ∧ wx = wr.alloc (.cells #[.int .u8 dd, .int .u8 0, .int .u8 sb, .int .u32 p, .int .u32 v, .int .i64 n, .bool sn, .slice A l cc] 79))
      case first =>
        rcases (show dd = 0 ∨ dd = 1 ∨ dd = 17 ∨ dd = 14 ∨ (dd = 12 ∧ nb = 0) ∨ (dd = 12 ∧ nb ≠ 0) ∨ (dd ≠ 0 ∧ dd ≠ 1 ∧ dd ≠ 17 ∧ dd ≠ 14 ∧ dd ≠ 12) by omega) with rfl | rfl | rfl | rfl | ⟨rfl, rfl⟩ | ⟨rfl, hnb0⟩ | ⟨a0, a1, a17, a14, a12⟩
        · go_wp2
          go_meet
          exact ⟨⟨_, rfl⟩, rfl⟩
        · go_wp2
          go_meet
          exact ⟨⟨_, rfl⟩, rfl⟩
        · go_wp2
          go_meet
          exact ⟨⟨_, rfl⟩, rfl⟩
        · go_wp2
          go_meet
          exact ⟨⟨_, rfl⟩, rfl⟩
        · go_wp2
          go_meet
          exact ⟨⟨_, rfl⟩, rfl⟩
        · have hz0 : ((nb : Int) == 0) = false := by simp; omega
          go_wp2
          go_meet
          exact ⟨⟨_, rfl⟩, rfl⟩
        · have v0 : (dd == 0) = false := by simp [a0]
          have v1 : (dd == 1) = false := by simp [a1]
          have v17 : (dd == 17) = false := by simp [a17]
          have v14 : (dd == 14) = false := by simp [a14]
          have v12 : (dd == 12) = false := by simp [a12]
          clear a0 a1 a17 a14 a12
          go_wp2
          go_meet
          exact ⟨⟨_, rfl⟩, rfl⟩
      case rest =>
        obtain ⟨⟨bc, rfl⟩, rfl⟩ := hcut
        go_upto_if 53 with (fail)
        go_cut [] from 21 to 68 (fun wx => ∃ d' : Int, 0 ≤ d' ∧ d' < 256 ∧ Below wr.heap.size wr wx ∧ wr.heap.size < wx.heap.size ∧ wx.cell? ⟨wr.heap.size, 0, none⟩ = some (.int .u8 d') ∧ wx.cell? ⟨wr.heap.size, 1, none⟩ = some (.int .u8 0) ∧ wx.cell? ⟨wr.heap.size, 2, none⟩ = some (.int .u8 sb) ∧ wx.cell? ⟨wr.heap.size, 3, none⟩ = some (.int .u32 p) ∧ wx.cell? ⟨wr.heap.size, 4, none⟩ = some (.int .u32 v) ∧ wx.cell? ⟨wr.heap.size, 5, none⟩ = some (.int .i64 n) ∧ wx.cell? ⟨wr.heap.size, 6, none⟩ = some (.bool sn) ∧ wx.cell? ⟨wr.heap.size, 7, none⟩ = some (.slice A l cc))
        case first =>
          cases bc
          · go_wp2
            go_meet
            exact ⟨dd, by omega, by omega, (Below.refl _ _).alloc (Nat.le_refl _) _, by simp, by go_simp, by go_simp, by go_simp, by go_simp, by go_simp, by go_simp, by go_simp, by go_simp⟩
          · go_wp2
            go_meet
            exact ⟨6, by omega, by omega, (Below.refl _ _).alloc (Nat.le_refl _) _, by simp, by go_simp, by go_simp, by go_simp, by go_simp, by go_simp, by go_simp, by go_simp, by go_simp⟩
        case rest =>
          obtain ⟨d', hd0, hd1, hbw, hbl, y0, y1, y2, y3, y4, y5, y6, y7⟩ := hcut
          have HBW := hide_ hbw
          clear hbw q0 q1 q2 q3 q4 q5 q6 q7 hbk hbx
          go_wp2_with fail
          refine (HST.out _ d' HBW.out hd0 hd1).mono ?_
          rintro e w6 ⟨rfl, ⟨st6, hI6⟩, hb6⟩
          have HI6 := hide_ hI6
          have HB6 := hide_ (show Below w.heap.size w w6 from (HB.out.trans (HBW.out.mono HBS.out)).trans hb6)
          clear hI6 hb6 HST HB HBS HBW y0 y1 y2 y3 y4 y5 y6 y7 hbl
          go_upto_region 14 with (fail)
          obtain ⟨s6, hs6⟩ := slot_some HI6.out.len (show 0 < 4 by omega)
          have HP6 := hide_ (And.intro (HI6.out.ptr0 hs6).1 (HI6.out.ptr0 hs6).2.1)
          obtain ⟨u0, u4, uq⟩ := HI6.out.ptr0 hs6
          have HT7 := hide_ (touch2 HI6.out.drew s6 hs6)
          clear hs6 HI6
          go_region_held3 (fun W' => W'.cell? ⟨q, 0, none⟩ = some (.pointer (mA s6)) ∧ W'.cell? ⟨q, 4, none⟩ = some (.pointer (rA s6)))
            (first | exact HP6.out | exact HP7.out | exact HP8.out | exact HP9.out)
            ((first
              | (go_at_call 46; refine HT7.out.mono ?_; rintro e w7 ⟨A7, n7, rfl, hb7, hp7, hc7⟩; have HP7 := hide_ (And.intro hp7.1 hp7.2.1); have HC7 := hide_ hc7; clear hb7 hp7 hc7)
              | (go_at_call 57; refine HC7.out.mono ?_; rintro e w8 ⟨A8, c8, rfl, hb8, hp8, hc8⟩; have HP8 := hide_ (And.intro hp8.1 hp8.2.1); have HC8 := hide_ hc8; clear hb8 hp8 hc8)
              | (go_at_call 56; refine HC8.out.mono ?_; rintro e w9 ⟨rfl, hb9, hp9, hk9⟩; have HP9 := hide_ (And.intro hp9.1 hp9.2.1); have HK9 := hide_ hk9; have HB9 : Hid (Below w.heap.size w w9) := hide_ (HB6.out.drew.trans hb9); clear hb9 hp9 hk9)))
          go_wp2
          go_roundw
          case rel => exact ⟨k + 1, by omega, by go_num, ⟨_, HK9.out⟩, HB9.out⟩
          case measure => simp [intOf]; omega
    · obtain rfl : k = ns := by omega
      have HB := hide_ hb
      obtain ⟨p0, p4, pq⟩ := hI.ptr0 hs1
      have H2 := hide_ (store2 hI s1 hs1 5 7 (by omega) (by omega) (by omega) (by omega))
      clear hI hb hs1
      go_wp2_with fail
      refine H2.out.mono ?_
      rintro e w3 ⟨rfl, hb3, ⟨r0, r4, rq⟩, hc3⟩
      have H3 := hide_ hc3
      clear hb3 hc3 H2
      go_wp2_with fail
      refine H3.out.mono ?_
      rintro e w4 ⟨rfl, hb4, ⟨st4, s4, hI4, hs4, he4, hf4⟩⟩
      obtain ⟨u0, u4, uq⟩ := hI4.ptr0 hs4
      have H4 := hide_ (touch2 hI4 s4 hs4)
      have HB4 := hide_ (HB.out.trans hb4)
      clear hb4 hI4 H3 HB hs4 he4 hf4 r0 r4 rq p0 p4 pq
      go_wp2_with fail
      refine H4.out.mono ?_
      rintro e w7 ⟨A7, n7, rfl, hb7, ⟨r0, r4, rq⟩, hc7⟩
      have HC7 := hide_ hc7
      clear hb7 hc7 H4 u0 u4 uq
      go_wp2_with fail
      refine HC7.out.mono ?_
      rintro e w8 ⟨A8, c8, rfl, hb8, ⟨u0, u4, uq⟩, hc8⟩
      have HC8 := hide_ hc8
      clear hb8 hc8 HC7 r0 r4 rq
      go_wp2_with fail
      refine HC8.out.mono ?_
      rintro e w9 ⟨rfl, hb9, _, ⟨st9, s9, hI9, hs9, he9, hf9⟩⟩
      have HS := hide_ (stand_any hI9)
      have HB9 := hide_ (HB4.out.trans hb9)
      clear hb9 hI9 hs9 he9 hf9 HC8 HB4 u0 u4 uq
      go_wp2_with fail
      refine HS.out.mono ?_
      rintro e w10 ⟨rfl, hb10⟩
      have HB10 := hide_ (HB9.out.trans (hb10.mono HB9.out.size))
      clear hb10
      go_wp2
      go_ret
      exact ⟨rfl, HB10.out⟩
set_option maxRecDepth 100000 in
theorem MemLogs_raw {H : Type} {enc : TypeId × Value → H} {base : Nat} (v : Value) (w : World)
    (hv : Value.okWide Try.prog w .any base 77 v) (h : Seen enc Try.prog w true 77 v.cells.toList) :
    Calls Try.prog 15 #[v] w fun e w' => e = .returned (.bool true) ∧ Below w.heap.size w w' := by
  obtain ⟨A2, n2, c2, rfl⟩ := Go.WideShapes.okWide_slice Try.underlying77 hv
  obtain ⟨A3, n3, c3, f, he, h1, h2, h3⟩ := seen_script h
  simp [Value.cells] at he
  obtain ⟨rfl, rfl, rfl⟩ := he
  clear hv h
  exact MemLogs_walk A2 n2 c2 f w h3 (by omega)
end Go.Proofs.Ytgppbdcnpailaaa
