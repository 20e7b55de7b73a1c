/-
  ListBytes: the pairs of the rows are the bytes.
-/
import Derived.Test.YtikbegmodacopaaGreatDoorLbt
namespace Go.Proofs.YtikbegmodacopaaGreatDoor
open Go.RowKit Go.PlainAid Go.BigFrame Go.Shelf
set_option linter.unusedSimpArgs false
set_option linter.unusedVariables false
set_option maxRecDepth 100000
/-- a row, as the reader goes through it -/
structure RowG (S h rest : ByteArray) (L : List Int) (m : Nat) : Prop where
  h10 : 10 ≤ h.size
  h100 : h.size ≤ 100
  lt : ∀ k, k < h.size → bn S k ≠ 10
  at_ : bn S h.size = 10
  prs : prsL h.size ((bl h).drop 7) = L
  plc : plcF 0 ((bl h).take 6) = m
  step : ∀ j, j < 6 → nibV (bn S j) ≤ 15 ∧ plcF 0 ((bl h).take (j + 1)) = 16 * plcF 0 ((bl h).take j) + nibV (bn S j) ∧ plcF 0 ((bl h).take j) < 16777216
  cut : S.extract 0 h.size = h
  rst : S.extract (h.size + 1) S.size = rest
  size : S.size = h.size + 1 + rest.size
theorem plcF_lt : ∀ (l : List Nat) (p k : Nat), (∀ c ∈ l, nibV c ≤ 15) → p < 16 ^ k → plcF p l < 16 ^ (k + l.length)
  | [], p, k, _, h => h
  | c :: t, p, k, hl, h => by
    have hc := hl c (by simp)
    have h2 : 16 * p + nibV c < 16 ^ (k + 1) := by rw [Nat.pow_succ]; omega
    have := plcF_lt t (16 * p + nibV c) (k + 1) (fun d hd => hl d (by simp [hd])) h2
    rw [show k + 1 + t.length = k + (c :: t).length by simp; omega] at this
    exact this
theorem bn_app (h t : ByteArray) (k : Nat) (hk : k < h.size) : bn (h ++ t) k = bn h k := by
  have e := bl_bn (h ++ t) k (by rw [ByteArray.size_append]; omega)
  rw [bl_app, List.getElem?_append_left (by rw [bl_len]; exact hk), bl_bn h k hk] at e
  exact (Option.some.inj e).symm
theorem sz_len (s : ByteArray) : s.size = s.data.toList.length := (Array.length_toList).symm
theorem ext_l (h t : ByteArray) : (h ++ t).extract 0 h.size = h := by
  apply ByteArray.ext
  apply Array.ext'
  rw [Lib.extract_data, ByteArray.data_append, Array.toList_append, List.drop_zero, Nat.sub_zero, sz_len h, List.take_left]
theorem ext_r (h t : ByteArray) : (h ++ t).extract h.size (h ++ t).size = t := by
  apply ByteArray.ext
  apply Array.ext'
  rw [Lib.extract_data, ByteArray.size_append, ByteArray.data_append, Array.toList_append, sz_len h, sz_len t, List.drop_left, List.take_of_length_le (by omega)]
theorem RowG.of {b : List Int} {n : Nat} {r : RowV} {S rest : ByteArray} (hr : RowRd b n r S rest) : ∃ h, RowG S h rest r.l n := by
  obtain ⟨h, hS, h10, h100, hnl, hprs, hplc, hnib⟩ := hr.cut
  have hbn : ∀ k, k < h.size → bn S k = bn h k := fun k hk => by rw [hS]; exact bn_app h _ k hk
  have hmem : ∀ k, k < h.size → bn h k ∈ bl h := fun k hk => List.mem_of_getElem? (bl_bn h k hk)
  have hT : ∀ j, j < 6 → (bl h).take (j + 1) = (bl h).take j ++ [bn h j] := fun j hj => by
    rw [take_snoc (bl h) 0 j (by rw [bl_len]; omega), bl_bn h j (by omega)]
    rfl
  have hN : ∀ j, j < 6 → nibV (bn h j) ≤ 15 := fun j hj => hnib _ (by
    refine List.mem_of_getElem? (i := j) ?_
    rw [List.getElem?_take_of_lt hj, bl_bn h j (by omega)])
  refine ⟨h, h10, h100, fun k hk => by rw [hbn k hk]; exact hnl _ (hmem k hk), ?_, hprs, hplc, fun j hj => ⟨by rw [hbn j (by omega)]; exact hN j hj, ?_, ?_⟩, by rw [hS]; exact ext_l _ _, ?_, ?_⟩
  · have e := bl_bn S h.size (by rw [hS, ByteArray.size_append, ByteArray.size_append]; show _ < _ + (1 + _); omega)
    rw [hS, bl_app, List.getElem?_append_right (by rw [bl_len]; exact Nat.le_refl _), bl_len, Nat.sub_self, bl_app] at e
    have e2 : (bl ⟨#[10]⟩ ++ bl rest)[0]? = some 10 := rfl
    rw [e2] at e
    rw [← hS] at e
    exact (Option.some.inj e).symm
  · rw [hT j hj, plcF_app, hbn j (by omega)]
    rfl
  · have := plcF_lt ((bl h).take j) 0 0 (fun c hc => hnib c (by
      have : (bl h).take j = ((bl h).take 6).take j := by rw [List.take_take, Nat.min_eq_left (by omega)]
      rw [this] at hc
      exact List.mem_of_mem_take hc)) (by decide)
    have hl : ((bl h).take j).length ≤ 5 := by rw [List.length_take]; omega
    have h2 : 16 ^ (0 + ((bl h).take j).length) ≤ 16 ^ 5 := Nat.pow_le_pow_right (by omega) (by omega)
    have h3 : (16 : Nat) ^ 5 = 1048576 := by decide
    omega
  · have : S = (h ++ ⟨#[10]⟩) ++ rest := by rw [hS]; apply ByteArray.ext; simp
    rw [this]
    have e := ext_r (h ++ ⟨#[10]⟩) rest
    rw [show (h ++ ⟨#[10]⟩).size = h.size + 1 by rw [ByteArray.size_append]; rfl] at e
    exact e
  · rw [hS, ByteArray.size_append, ByteArray.size_append]
    show _ + (1 + _) = _
    omega
set_option maxHeartbeats 4000000 in
theorem ListBytes_big (A : Option Addr) (n c : Nat) (xs : List Int) (w : World) (ha : Reads w w.heap.size 1 A n (u8s xs)) (hcap : n ≤ c) (hx : isBytes xs) (hn : 65536 < n) (hT : TabOk w) (hU : BruOk w) :
    Calls Tryz.prog 8 #[.slice A n c] w fun e w' => e = .returned (.bool true) ∧ Below w.heap.size w w' := by
  have HD := hide_ (lDump_big A n c w hn)
  have HAW := hide_ (fun W (hb : Below w.heap.size w W) => awake_any W (hT.below hb))
  have h : decide ((65536 : Int) < (n : Int)) = true := decide_eq_true (by omega)
  have h2 : decide (65536 < n) = true := decide_eq_true hn
  clear ha hx hT hU
  go_enter Tryz.func8, Tryz.ntmps8
  go_wp2_with fail
  refine HD.out.mono ?_
  rintro e w1 ⟨rfl, hb1⟩
  have HB1 := hide_ hb1
  clear hb1 HD
  go_wp2_with fail
  refine (HAW.out w1 HB1.out).mono ?_
  rintro e w2 ⟨rfl, hb2⟩
  have HB2 := hide_ (HB1.out.trans (hb2.mono HB1.out.size))
  clear hb2 HAW
  go_wp2_with fail
  exact bodyPost_ret (v := .bool true) (by simp [results, Tryz.results8, go_sem]) rfl ⟨rfl, HB2.out⟩
set_option maxHeartbeats 8000000 in
theorem ListBytes_small (A : Option Addr) (n c : Nat) (xs : List Int) (w : World) (ha : Reads w w.heap.size 1 A n (u8s xs)) (hcap : n ≤ c) (hx : isBytes xs) (hn : n ≤ 65536) (hT : TabOk w) (hU : BruOk w) :
    Calls Tryz.prog 8 #[.slice A n c] w fun e w' => e = .returned (.bool true) ∧ Below w.heap.size w w' := by
  have la : xs.length = n := by simpa using ha.1
  have HD := hide_ (lDump_small A n c xs w ha hcap hx hn hT hU)
  have HAW := hide_ (fun W (hb : Below w.heap.size w W) => awake_any W (hT.below hb))
  have HR := hide_ (fun W (hb : Below w.heap.size w W) => ha.below hb)
  have HX := hide_ hx
  have HLA := hide_ la
  have HP0 := hide_ (dumpR_parts hx)
  have HNB := hide_ (fun c hc W => nibble12_any c hc W)
  rw [← dumpR_eq] at HD
  have h : decide ((65536 : Int) < (n : Int)) = false := decide_eq_false (by omega)
  have h2 : decide (65536 < n) = false := decide_eq_false (by omega)
  obtain ⟨rs0, hrs0⟩ : ∃ r, r = dumpR xs := ⟨_, rfl⟩
  rw [← hrs0] at HD HP0
  obtain ⟨S0, hS0⟩ : ∃ r, r = catL (rs0.map rowT) := ⟨_, rfl⟩
  have HS0 := hide_ hS0
  rw [← hS0] at HD
  clear ha hx hT hU la hrs0 hS0
  go_enter Tryz.func8, Tryz.ntmps8
  go_wp2_with fail
  refine HD.out.mono ?_
  rintro e w1 ⟨rfl, hb1⟩
  have HB1 := hide_ hb1
  clear hb1 HD
  go_wp2
  go_loopw [3, 5] (fun s3 s5 wr => ∃ (rs : List RowV) (S : ByteArray) (m : Nat), s3 = .string S ∧ s5 = .int .i64 m ∧ m ≤ n ∧ Hid (S = catL (rs.map rowT)) ∧ Hid (Parts xs m rs) ∧ Hid (Below w.heap.size w wr)) (fun s3 _ _ => match s3 with | .string U => U.size | _ => 0)
  case atStart => exact ⟨rs0, S0, 0, rfl, rfl, Nat.zero_le _, HS0, HP0, HB1⟩
  case round =>
    obtain ⟨rs, S, m, rfl, rfl, hmn, HS, HP, HB⟩ := hrel
    clear HS0 HP0 HB1
    cases rs with
    | nil =>
      obtain rfl : S = ⟨#[]⟩ := HS.out
      have hm : m = n := by
        have : m = xs.length := HP.out
        rw [this, HLA.out]
      subst hm
      go_wp2_with fail
      refine (HAW.out wr HB.out).mono ?_
      rintro e w2 ⟨rfl, hb2⟩
      have HB2 := hide_ (HB.out.trans (hb2.mono HB.out.size))
      clear hb2 HAW
      go_wp2_with fail
      exact bodyPost_ret (v := .bool true) (by simp [results, Tryz.results8, go_sem]) rfl ⟨rfl, HB2.out⟩
    | cons r rs =>
      obtain ⟨rest, hrest⟩ : ∃ r, r = catL (rs.map rowT) := ⟨_, rfl⟩
      have hSe : S = rowT r ++ rest := by rw [HS.out, hrest, List.map_cons, catL_cons]
      obtain ⟨hd, HGG⟩ := RowG.of (row_read HX.out (by rw [HLA.out]; exact hn) HP.out rest)
      rw [← hSe] at HGG
      have HG := hide_ HGG
      have HREST := hide_ hrest
      obtain ⟨p1, p2, p3, p4, p5, _, _, _, p9⟩ := HP.out
      have HNEXT := hide_ p9
      have HCUT := hide_ p2
      obtain ⟨L, hL⟩ : ∃ L, L = r.l.length := ⟨_, rfl⟩
      rw [← hL] at p3 p4 p5 HNEXT HCUT
      have HL := hide_ hL
      rw [HLA.out] at p5
      have hsz := HGG.size
      have h10 := HGG.h10
      have h100 := HGG.h100
      clear p1 p2 p9 hrest hSe HGG HS HP hL
      have hpos : 0 < S.size := by omega
      have hbt := get_bt S
      have c0 : decide ((0 : Int) < (S.size : Int)) = true := decide_eq_true (by omega)
      have HSZ := hide_ hsz
      clear hsz
      go_wp2
      go_loopw [6] (fun s6 W => ∃ k : Nat, k ≤ hd.size ∧ s6 = .int .i64 k ∧ Hid (W = wr)) (fun s6 _ => hd.size - (intOf s6).toNat)
      case atStart => exact ⟨0, Nat.zero_le _, rfl, hide_ rfl⟩
      case round =>
        obtain ⟨k, hk, rfl, HWR⟩ := hrel
        have HWRR := hide_ HWR.out.symm
        obtain rfl := HWR.out
        clear HWR HWRR
        have hkS : k < S.size := by have := HSZ.out; omega
        have b0 := bt_eq S k hkS
        have c1 : decide ((k : Int) < (S.size : Int)) = true := decide_eq_true (by omega)
        have c2 : decide (k < S.size) = true := decide_eq_true hkS
        by_cases hlt : k < hd.size
        · have hne := HG.out.lt k hlt
          obtain ⟨x, hx⟩ : ∃ x, x = bn S k := ⟨_, rfl⟩
          rw [← hx] at b0 hne
          have q1 : ((x : Int) != 10) = true := by simpa using (by omega : ¬ (x : Int) = 10)
          have q2 : (x != 10) = true := by simpa using hne
          have q3 : ((x : Int) == 10) = false := by simpa using (by omega : ¬ (x : Int) = 10)
          have w1 : IntKind.i64.wrap ((k : Int) + 1) = (k : Int) + 1 := IntWalk.i64_in _ (by omega)
          clear hx hne
          go_wp2
          go_roundw
          case rel => exact ⟨k + 1, by omega, by first | go_num | (rw [w1]; rfl), by first | exact hide_ rfl | exact hide_ trivial⟩
          case measure => simp [intOf]; omega
        · obtain rfl : k = hd.size := by omega
          have h10e := HG.out.at_
          rw [h10e] at b0
          have HC := hide_ HG.out.cut
          have hpr := pairs_any hd (by omega)
          rw [HG.out.prs, ← HL.out] at hpr
          have HPR := hide_ hpr
          have q4 : ((hd.size : Int) == (S.size : Int)) = false := by simpa using (by omega : ¬ (hd.size : Int) = (S.size : Int))
          have q5 : (hd.size == S.size) = false := by simpa using (by omega : ¬ hd.size = S.size)
          have q6 : decide ((hd.size : Int) < 10) = false := decide_eq_false (by omega)
          have q7 : decide (hd.size < 10) = false := decide_eq_false (by omega)
          have q8 : hd.size ≤ S.size := by omega
          have hcut := HG.out.cut
          clear h10e hpr hlt hk
          go_wp2_with fail
          refine (HPR.out wr).mono ?_
          rintro e w2 ⟨v, rfl, hown, hb2⟩
          obtain ⟨g, cg, hv⟩ := ownsRow_some hown (by omega)
          subst hv
          have HB2 := hide_ (HB.out.trans (hb2.mono HB.out.size))
          have HROW := hide_ (Reads.of_own hown)
          clear hown hb2 HPR hcut HC b0 q4 q5 q6 q7 q8
          go_wp2
          go_loopw [8, 9] (fun s8 s9 W => ∃ j : Nat, j ≤ 6 ∧ s9 = .int .i64 j ∧ s8 = .int .i64 (plcF 0 ((bl hd).take j)) ∧ Hid (W = w2)) (fun _ s9 _ => 6 - (intOf s9).toNat)
          case atStart => exact ⟨0, by omega, rfl, rfl, hide_ rfl⟩
          case round =>
            obtain ⟨j, hj, rfl, rfl, HWR⟩ := hrel
            obtain rfl := HWR.out
            clear HWR
            by_cases hlt : j < 6
            · have hjS : j < S.size := by omega
              obtain ⟨g1, g2, g3⟩ := HG.out.step j hlt
              have b0 := bt_eq S j hjS
              have HN := hide_ (HNB.out (bn S j) (bn_lt S j))
              obtain ⟨x, hx⟩ : ∃ x, x = bn S j := ⟨_, rfl⟩
              rw [← hx] at b0 g1 g2 HN
              obtain ⟨X, hX⟩ : ∃ X, X = nibV x := ⟨_, rfl⟩
              rw [← hX] at g1 g2 HN
              obtain ⟨p0, hp0⟩ : ∃ X, X = plcF 0 ((bl hd).take j) := ⟨_, rfl⟩
              rw [← hp0] at g2 g3 ⊢
              have HG2 := hide_ g2
              have q1 : decide ((15 : Int) < (X : Int)) = false := decide_eq_false (by omega)
              have q2 : decide (15 < X) = false := decide_eq_false (by omega)
              have m1 : IntKind.i64.wrap (16 * (p0 : Int)) = 16 * (p0 : Int) := IntWalk.i64_in _ (by omega)
              have m2 : IntKind.i64.wrap (16 * (p0 : Int) + (X : Int)) = 16 * (p0 : Int) + (X : Int) := IntWalk.i64_in _ (by omega)
              have w1 : IntKind.i64.wrap ((j : Int) + 1) = (j : Int) + 1 := IntWalk.i64_in _ (by omega)
              clear hx hX hp0 g2
              go_wp2_with fail
              refine (HN.out _).mono ?_
              rintro e w3 ⟨rfl, rfl⟩
              clear HN
              go_wp2
              go_roundw
              case rel => exact ⟨j + 1, by omega, by go_num, by rw [HG2.out]; push_cast; rfl, by first | exact hide_ rfl | exact hide_ trivial⟩
              case measure => simp [intOf]; omega
            · obtain rfl : j = 6 := by omega
              have hplc := HG.out.plc
              rw [hplc]
              have q1 : ((m : Int) != (m : Int)) = false := by simp
              have q2 : ((L : Int) == 0) = false := by simpa using (by omega : ¬ (L : Int) = 0)
              have q3 : (L == 0) = false := by simpa using (by omega : ¬ L = 0)
              have q4 : decide ((n : Int) < (m : Int) + (L : Int)) = false := decide_eq_false (by omega)
              have q5 : decide (n < m + L) = false := decide_eq_false (by omega)
              have q6 : IntKind.i64.wrap ((m : Int) + (L : Int)) = (m : Int) + (L : Int) := IntWalk.i64_in _ (by omega)
              clear hplc hlt hj
              obtain ⟨ad, u, rfl, hadb, _, _⟩ := (HR.out wr HB2.out).at_ (show m < n by omega)
              have HCELL := hide_ (fun i (hi : i < L) => show wr.cell? ⟨g, i, none⟩ = some (.int .u8 (bA xs (m + i))) ∧ wr.cell? (ad.add (m + i)) = some (.int .u8 (bA xs (m + i))) by
                obtain ⟨ad1, u1, e1, _, hu1, hc1⟩ := HROW.out.at_ hi
                injection e1 with e1
                subst e1
                obtain rfl := u8s_at (by rw [← HL.out]; exact hi) hu1
                rw [Lib.add_plain, Nat.zero_add] at hc1
                obtain ⟨ad2, u2, e2, _, hu2, hc2⟩ := (HR.out wr HB2.out).at_ (show m + i < n by omega)
                injection e2 with e2
                subst e2
                obtain rfl := u8s_at (by rw [HLA.out]; omega) hu2
                refine ⟨?_, hc2⟩
                rw [hc1, HCUT.out]
                congr 2
                unfold cutB bA
                rw [List.getElem?_take_of_lt hi, List.getElem?_drop])
              go_wp2_with fail
              go_loopw [11] (fun s11 W => ∃ i : Nat, i ≤ L ∧ s11 = .int .i64 i ∧ ∃ nq, W = wr.drewN nq) (fun s11 _ => L - (intOf s11).toNat)
              case atStart => exact ⟨0, Nat.zero_le _, rfl, 0, rfl⟩
              case round =>
                obtain ⟨i, hi, rfl, nq, rfl⟩ := hrel
                by_cases hlt : i < L
                · obtain ⟨k1, k2⟩ := HCELL.out i hlt
                  have s1 : IntKind.i64.wrap ((m : Int) + (i : Int)) = (m : Int) + (i : Int) := IntWalk.i64_in _ (by omega)
                  have s2 : (0 : Int) ≤ (m : Int) + (i : Int) := by omega
                  have s3 : ((m : Int) + (i : Int)).toNat = m + i := by omega
                  have s4 : (m : Int) + (i : Int) < (n : Int) := by omega
                  have w1 : IntKind.i64.wrap ((i : Int) + 1) = (i : Int) + 1 := IntWalk.i64_in _ (by omega)
                  obtain ⟨z, hz⟩ : ∃ z, z = bA xs (m + i) := ⟨_, rfl⟩
                  rw [← hz] at k1 k2
                  have hzz : (z != z) = false := by simp
                  clear hz
                  go_wp2
                  go_quiet (fail)
                  go_wp2
                  go_roundw
                  case rel => exact ⟨i + 1, by omega, by go_num, _, rfl⟩
                  case measure => simp [intOf]; omega
                · obtain rfl : i = L := by omega
                  have hrst := HG.out.rst
                  have w1 : IntKind.i64.wrap ((hd.size : Int) + 1) = (hd.size : Int) + 1 := IntWalk.i64_in _ (by omega)
                  have w2 : ((hd.size : Int) + 1).toNat = hd.size + 1 := by omega
                  have w3 : (0 : Int) ≤ (hd.size : Int) + 1 := by omega
                  have w4 : (hd.size : Int) + 1 ≤ (S.size : Int) := by have := HSZ.out; omega
                  have w5 : hd.size + 1 ≤ S.size := by omega
                  have HBF := hide_ (show Below w.heap.size w (wr.drewN nq) from ⟨HB2.out.os, HB2.out.tape, HB2.out.output, HB2.out.size, HB2.out.block⟩)
                  clear HCELL hlt hi
                  go_wp2
                  go_roundw
                  case rel => exact ⟨rs, rest, m + i, rfl, by push_cast; rfl, by omega, HREST, HNEXT, HBF⟩
                  case measure => have := HSZ.out; show rest.size < S.size; omega
theorem ListBytes_any (A : Option Addr) (n c : Nat) (xs : List Int) (w : World) (ha : Reads w w.heap.size 1 A n (u8s xs)) (hcap : n ≤ c) (hx : isBytes xs) (hT : TabOk w) (hU : BruOk w) :
    Calls Tryz.prog 8 #[.slice A n c] w fun e w' => e = .returned (.bool true) ∧ Below w.heap.size w w' := by
  by_cases h : 65536 < n
  · exact ListBytes_big A n c xs w ha hcap hx h hT hU
  · exact ListBytes_small A n c xs w ha hcap hx (by omega) hT hU
end Go.Proofs.YtikbegmodacopaaGreatDoor
