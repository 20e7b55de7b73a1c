/-
  The walk of the statement MemBack.
-/
import Derived.Test.YtgppbdcnpailaaaRw
import Derived.Test.YtgppbdcnpailaaaSee
namespace Go.Proofs.Ytgppbdcnpailaaa
open Go.RowKit

/-! ### the plain law -/
theorem puts_congr {N : Nat} {a b : Int} {ys xs : List Int} (h : ∀ k, plc N a k = plc N b k) : ∀ n, puts N a ys xs n = puts N b ys xs n := by
  intro n
  induction n with
  | zero => rfl
  | succ n ih => rw [puts, puts, ih, h n]
theorem back_words {N : Nat} (hN : IsPow N) (h4 : 256 ≤ N) {xs : List Int} (hx : xs.length = N) (a v : Int) :
    wordAt N a (puts N a (bytes4 v) xs 4) 4 = v ∧ wordAt N a (puts N a (bytes4 v) xs 4) 2 = v % 65536 ∧ wordAt N a (puts N a (bytes4 v) xs 4) 1 = v % 256 ∧
      wordAt N ((a + 3) % 4294967296) (puts N a (bytes4 v) xs 4) 1 = v / 16777216 ∧ wordAt N ((a + 2) % 4294967296) (puts N a (bytes4 v) xs 4) 2 = v / 65536 ∧
      wordAt N ((a + 1) % 4294967296) (puts N a (bytes4 v) xs 4) 2 = v / 256 % 65536 ∧ wordAt N ((a + 1) % 4294967296) (puts N a (bytes4 v) xs 4) 1 = v / 256 % 256 ∧
      wordAt N ((a + 2) % 4294967296) (puts N a (bytes4 v) xs 4) 1 = v / 65536 % 256 := by
  have g := fun j (hj : j < 4) => gt_puts hN (a := a) (ys := bytes4 v) hx 4 (by omega) j (by omega)
  have g0 := g 0 (by omega)
  have g1 := g 1 (by omega)
  have g2 := g 2 (by omega)
  have g3 := g 3 (by omega)
  simp only [show (0 : Nat) < 4 by omega, show (1 : Nat) < 4 by omega, show (2 : Nat) < 4 by omega, show (3 : Nat) < 4 by omega, if_true, bytes4, List.getElem?_cons_zero, List.getElem?_cons_succ, Option.getD_some] at g0 g1 g2 g3
  have s1 : ∀ k, plc N ((a + 1) % 4294967296) k = plc N a (1 + k) := plc_shift hN a 1
  have s2 : ∀ k, plc N ((a + 2) % 4294967296) k = plc N a (2 + k) := plc_shift hN a 2
  have s3 : ∀ k, plc N ((a + 3) % 4294967296) k = plc N a (3 + k) := plc_shift hN a 3
  unfold wordAt
  simp only [s1, s2, s3, Nat.add_zero, show (1 : Nat) + 1 = 2 from rfl, show (2 : Nat) + 1 = 3 from rfl]
  simp [g0, g1, g2, g3, bytes4]
  omega
theorem back_mixed {N : Nat} (hN : IsPow N) (h4 : 256 ≤ N) {xs : List Int} (hx : xs.length = N) (a v v1 v2 : Int) :
    wordAt N a (puts N ((a + 2) % 4294967296) (bytes4 v2) (puts N a (bytes4 v1) (puts N a (bytes4 v) xs 4) 2) 1) 4 = v1 % 65536 + v2 % 256 * 65536 + v / 16777216 * 16777216 := by
  have hx1 : (puts N a (bytes4 v) xs 4).length = N := by rw [puts_len, hx]
  have hx2 : (puts N a (bytes4 v1) (puts N a (bytes4 v) xs 4) 2).length = N := by rw [puts_len, hx1]
  have g := fun j (hj : j < 4) => gt_puts hN (a := a) (ys := bytes4 v) hx 4 (by omega) j (by omega)
  have k := fun j (hj : j < 4) => gt_puts hN (a := a) (ys := bytes4 v1) hx1 2 (by omega) j (by omega)
  have e : ∀ j, j < 4 → gt (puts N ((a + 2) % 4294967296) (bytes4 v2) (puts N a (bytes4 v1) (puts N a (bytes4 v) xs 4) 2) 1) (plc N a j) = if j = 2 then v2 % 256 else gt (puts N a (bytes4 v1) (puts N a (bytes4 v) xs 4) 2) (plc N a j) := by
    intro j hj
    have s2 : plc N ((a + 2) % 4294967296) 0 = plc N a 2 := plc_shift hN a 2 0
    have hb := plc_bd hN a 2
    show gt ((puts N a (bytes4 v1) (puts N a (bytes4 v) xs 4) 2).set (plc N ((a + 2) % 4294967296) 0).toNat (v2 % 256)) (plc N a j) = _
    rw [s2, gt_set _ hb.1 (by rw [hx2]; exact hb.2) (plc_bd hN a j).1]
    by_cases c : j = 2
    · subst c
      rw [if_pos rfl, if_pos rfl]
    · rw [if_neg c, if_neg (fun h => c (plc_inj hN (by omega) (by omega) h).symm)]
  have e0 := e 0 (by omega)
  have e1 := e 1 (by omega)
  have e2 := e 2 (by omega)
  have e3 := e 3 (by omega)
  rw [if_neg (by omega), k 0 (by omega)] at e0
  rw [if_neg (by omega), k 1 (by omega)] at e1
  rw [if_pos rfl] at e2
  rw [if_neg (by omega), k 3 (by omega), if_neg (by omega), g 3 (by omega)] at e3
  unfold wordAt
  rw [if_pos (by omega), if_pos (by omega), if_pos (by omega), if_pos (by omega), e0, e1, e2, e3]
  simp [bytes4]
  omega
theorem Seg.below {W W' : World} {B g d N c : Nat} {xs : List Int} {ex : List Ro} (h : Seg W B g d N c xs ex) (hb : Below W.heap.size W W') : Seg W' B g d N c xs ex := by
  obtain ⟨⟨tv, h1⟩, h2, h3, h4, h5⟩ := h
  exact ⟨⟨tv, h1.below hb⟩, Nat.le_trans h2 hb.size, h3, h4, h5⟩
theorem rpre {w : World} {B n m : Nat} {A : Option Addr} {xs ys : List Value} (h : Reads w B 1 A (n + m) (xs ++ ys)) (hx : xs.length = n) : Reads w B 1 A n xs := by
  refine ⟨by omega, fun hn => ?_⟩
  obtain ⟨ad, e, hb, hc⟩ := h.2 (by omega)
  exact ⟨ad, e, hb, fun j u hu => hc j u (by rw [List.getElem?_append_left (List.getElem?_eq_some_iff.1 hu).1]; exact hu)⟩
/-- a Shot -/
structure ShotV where
  bits : Int
  A : Option Addr
  n : Nat
  c : Nat
  zs : List Int
  at_ : Int
  v : Int
  far : Int
  m : Int
def shotCells (x : ShotV) : List Value := [.int .u8 x.bits, .slice x.A x.n x.c, .int .u32 x.at_, .int .u32 x.v, .int .u32 x.far, .int .u16 x.m]
structure ShotOk (w : World) (x : ShotV) : Prop where
  bits : 0 ≤ x.bits ∧ x.bits < 256
  at_ : 0 ≤ x.at_ ∧ x.at_ < 4294967296
  v : 0 ≤ x.v ∧ x.v < 4294967296
  far : 0 ≤ x.far ∧ x.far < 4294967296
  m : 0 ≤ x.m ∧ x.m < 65536
  seed : Reads w w.heap.size 1 x.A x.n (u8s x.zs)
  ok : bytesOk x.zs
  nc : x.n ≤ x.c
  cb : x.c ≤ 140737488351232

set_option maxRecDepth 100000 in
set_option maxHeartbeats 2000000 in
theorem MemBack_walk (x : ShotV) (w : World) (hx : ShotOk w x) : Calls Try.prog 9 #[.agg (shotCells x).toArray] w fun e w' => e = .returned (.bool true) ∧ Below w.heap.size w w' := by
  obtain ⟨bits, A, n, c, zs, a, v, far, m⟩ := x
  obtain ⟨⟨b0, b1⟩, ⟨a0, a1⟩, ⟨v0, v1⟩, ⟨f0, f1⟩, _, hseed, hzs, hnc, hcb⟩ := hx
  simp only at b0 b1 a0 a1 v0 v1 f0 f1 hseed hzs hnc hcb
  obtain ⟨K, hK⟩ : ∃ K : Nat, bits % 9 = (K : Int) := Int.eq_ofNat_of_zero_le (by omega)
  have hW1 : Below w.heap.size w (w.alloc (.cells (shotCells ⟨bits, A, n, c, zs, a, v, far, m⟩).toArray 59)) := (Below.refl _ _).alloc (Nat.le_refl _) _
  have k0 : Blk (w.alloc (.cells (shotCells ⟨bits, A, n, c, zs, a, v, far, m⟩).toArray 59)) w.heap.size 59 (shotCells ⟨bits, A, n, c, zs, a, v, far, m⟩).toArray := Blk.new w _ _
  have hmade := hide_ (made_seg bits K hK A n c w.heap.size zs b0 b1 (W := w.alloc (.cells (shotCells ⟨bits, A, n, c, zs, a, v, far, m⟩).toArray 59)) (B := w.heap.size + 1) (ex := []) (Owns.nil_) (by simp) (hseed.below hW1) (by simp) (by omega))
  have K0 := hide_ k0
  have hK8 : K ≤ 8 := by omega
  have HW1 := hide_ hW1
  have HSEED := hide_ hseed
  have HZS := hide_ hzs
  clear k0 hW1 hseed hzs hK b0 b1
  unfold shotCells at *
  go_enter Try.func9, Try.ntmps9
  go_wp2_with (go_at_call 34; refine hmade.out.mono ?_; rintro e w2 ⟨g, d, c2, rfl, hO2, hb2⟩)
  obtain ⟨N, hN⟩ : ∃ N, N = 2 ^ (8 + K) := ⟨_, rfl⟩
  rw [← hN] at hO2
  have hseg : IsSeg N := ⟨8 + K, by omega, by omega, hN⟩
  have hS2 : Seg w2 (w.heap.size + 1) g d N c2 (seedXs zs N) [] := ⟨⟨_, hO2⟩, by have := hb2.size; simp at this; omega, hseg, seedXs_len _ _, seedXs_ok HZS.out _⟩
  obtain ⟨W1, hW1⟩ : ∃ W1, W1 = w.alloc (.cells #[.int .u8 bits, .slice A n c, .int .u32 a, .int .u32 v, .int .u32 far, .int .u16 m] 59) := ⟨_, rfl⟩
  have hs1 : W1.heap.size = w.heap.size + 1 := by rw [hW1]; simp
  have hb2' : Below (w.heap.size + 1) W1 w2 := by rw [← hs1, hW1]; exact hb2
  have HCELL : Hid (∀ W', Below (w.heap.size + 1) W1 W' → W'.cell? ⟨w.heap.size, 1, none⟩ = some (.slice A n c) ∧ W'.cell? ⟨w.heap.size, 2, none⟩ = some (.int .u32 a) ∧ W'.cell? ⟨w.heap.size, 3, none⟩ = some (.int .u32 v) ∧ W'.cell? ⟨w.heap.size, 4, none⟩ = some (.int .u32 far) ∧ w.heap.size < W'.heap.size) := hide_ fun W' hb => by
    have kk : Blk W' w.heap.size 59 #[.int .u8 bits, .slice A n c, .int .u32 a, .int .u32 v, .int .u32 far, .int .u16 m] := (show Blk W1 _ _ _ by rw [hW1]; exact K0.out).below hb (by omega)
    exact ⟨kk.cell 1, kk.cell 2, kk.cell 3, kk.cell 4, kk.lt⟩
  have HFIN : Hid (∀ W', Below (w.heap.size + 1) W1 W' → Below w.heap.size w W') := hide_ fun W' hb => by
    have h1 : Below w.heap.size w W1 := by rw [hW1]; exact HW1.out
    exact h1.trans (hb.mono (by omega))
  have HSD : Hid (∀ W', Below (w.heap.size + 1) W1 W' → Reads W' w.heap.size 1 A n (u8s zs)) := hide_ fun W' hb => HSEED.out.below (HFIN.out W' hb)
  have HHN := hide_ hN
  have HSG := hide_ hseg
  have N1 : 256 ≤ N := hseg.bd.1
  have N2 : N ≤ 65536 := hseg.bd.2
  clear hO2 hb2 hN hseg hW1 hs1 hmade
  -- awake
  refine (awake_any w2).mono ?_
  rintro e w3 ⟨rfl, hb3⟩
  have hS3 := hS2.below hb3
  have hB3 : Below (w.heap.size + 1) W1 w3 := hb2'.trans (hb3.mono hS2.base)
  obtain ⟨_, q2, q3, _, ql⟩ := HCELL.out w3 hB3
  have h4 := hide_ (Bytes_off hS3)
  have HB3 := hide_ hB3
  have HS3 := hide_ hS3.base
  clear hS2 hb2' hb3 hS3 hB3
  go_wp2_with (go_at_call 33; refine h4.out.mono ?_; rintro e w4 ⟨o, co, rfl, hown4, hS4, hb4⟩; have hB4 := HB3.out.trans (hb4.mono HS3.out); obtain ⟨r1, r2, r3, r4, rl⟩ := HCELL.out w4 hB4)
  have hpow : IsPow N := HSG.out.pow
  obtain ⟨r, hr⟩ : ∃ r, r = (a + far * N % 4294967296) % 4294967296 := ⟨_, rfl⟩
  have hP : ∀ k, plc N r k = plc N a k := fun k => by rw [hr]; exact plc_far hpow a far k
  have hR0 : 0 ≤ r ∧ r < 4294967296 := by omega
  rw [← hr]
  obtain ⟨xs, hxs⟩ : ∃ xs, xs = seedXs zs N := ⟨_, rfl⟩
  rw [← hxs] at hS4
  have hxl : xs.length = N := hS4.len
  obtain ⟨e4, e2, e1, e13, e22, e21, e11, e12⟩ := back_words hpow N1 hxl a v
  obtain ⟨v1', hv1'⟩ : ∃ z, z = (v + 1) % 4294967296 := ⟨_, rfl⟩
  obtain ⟨v2', hv2'⟩ : ∃ z, z = (v + 2) % 4294967296 := ⟨_, rfl⟩
  have emx := back_mixed hpow N1 hxl a v v1' v2'
  rw [← puts_congr hP (ys := bytes4 v1') 2] at emx
  obtain ⟨ys, hys⟩ : ∃ ys, ys = puts N a (bytes4 v) xs 4 := ⟨_, rfl⟩
  rw [← hys] at e4 e2 e1 e13 e22 e21 e11 e12 emx
  have f4 : wordAt N r ys 4 = v := (wordAt_congr hP).trans e4
  have f2 : wordAt N r ys 2 = v % 65536 := (wordAt_congr hP).trans e2
  have f1 : wordAt N r ys 1 = v % 256 := (wordAt_congr hP).trans e1
  have f13 : wordAt N ((r + 3) % 4294967296) ys 1 = v / 16777216 := (wordAt_congr (fun k => ((plc_shift hpow r 3 k).trans (hP _)).trans (plc_shift hpow a 3 k).symm)).trans e13
  have HF := hide_ (show (wordAt N r ys 4 = v ∧ wordAt N r ys 2 = v % 65536 ∧ wordAt N r ys 1 = v % 256 ∧ wordAt N ((r + 3) % 4294967296) ys 1 = v / 16777216) from ⟨f4, f2, f1, f13⟩)
  obtain ⟨vl, hvl⟩ : ∃ z, z = v % 65536 := ⟨_, rfl⟩
  obtain ⟨vh, hvh⟩ : ∃ z, z = v / 65536 := ⟨_, rfl⟩
  obtain ⟨vm, hvm⟩ : ∃ z, z = v / 256 % 65536 := ⟨_, rfl⟩
  obtain ⟨vb, hvb⟩ : ∃ z, z = v / 256 % 256 := ⟨_, rfl⟩
  obtain ⟨vc, hvc⟩ : ∃ z, z = v / 65536 % 256 := ⟨_, rfl⟩
  have HE := hide_ (show (wordAt N a ys 4 = v ∧ wordAt N a ys 2 = vl ∧ wordAt N ((a + 2) % 4294967296) ys 2 = vh ∧ wordAt N ((a + 1) % 4294967296) ys 2 = vm ∧ wordAt N ((a + 1) % 4294967296) ys 1 = vb ∧ wordAt N ((a + 2) % 4294967296) ys 1 = vc) from ⟨e4, hvl ▸ e2, hvh ▸ e22, hvm ▸ e21, hvb ▸ e11, hvc ▸ e12⟩)
  have HSUM := hide_ (show (0 ≤ vl ∧ vl < 65536 ∧ 0 ≤ vh ∧ vh < 65536 ∧ vl + vh * 65536 = v ∧ 0 ≤ vb ∧ vb < 256 ∧ 0 ≤ vc ∧ vc < 256 ∧ vb + vc * 256 = vm) by omega)
  have HMX := hide_ emx
  have HV := hide_ (show v1' = (v + 1) % 4294967296 ∧ v2' = (v + 2) % 4294967296 from ⟨hv1', hv2'⟩)
  have HPP := hide_ hP
  have hst := Store4_off a v hS4 v0 v1
  rw [← hys] at hst
  have HST := hide_ hst
  have HB4 := hide_ hB4
  clear hst e4 e2 e1 e13 e22 e21 e11 e12 f4 f2 f1 f13 emx hP hr hys hxs hvl hvh hvm hvb hvc hS4 hown4 hb4 hB4 q2 q3 ql r1 r2 r3 r4 rl hv1' hv2' h4
  refine HST.out.mono ?_
  rintro e w5 ⟨rfl, hS5, hb5⟩
  have l1 := Load4_off r hS5
  rw [HF.out.1] at l1
  have L1 := hide_ l1
  have HB5 := hide_ (HB4.out.trans hb5)
  clear l1 hS5 hb5
  go_wp2_with (go_at_call 37; refine L1.out.mono ?_; rintro e w6 ⟨rfl, hS6, hb6⟩)
  have l2 := Load2_off r hS6
  rw [HF.out.2.1] at l2
  have L2 := hide_ l2
  have HB6 := hide_ (HB5.out.trans hb6)
  clear l2 hS6 hb6
  refine L2.out.mono ?_
  rintro e w7 ⟨rfl, hS7, hb7⟩
  have l3 := Load1_off r hS7
  rw [HF.out.2.2.1] at l3
  have L3 := hide_ l3
  have HB7 := hide_ (HB6.out.trans hb7)
  clear l3 hS7 hb7
  go_wp2_with (go_at_call 39; refine L3.out.mono ?_; rintro e w8 ⟨rfl, hS8, hb8⟩)
  have l9 := Load1_off ((r + 3) % 4294967296) hS8
  rw [HF.out.2.2.2] at l9
  have L9 := hide_ l9
  have HB8 := hide_ (HB7.out.trans hb8)
  clear l9 hS8 hb8
  go_wp2_with (go_at_call 39; refine L9.out.mono ?_; rintro e w9 ⟨rfl, hS9, hb9⟩)
  have l10 := Load4_off a hS9
  rw [HE.out.1] at l10
  have L10 := hide_ l10
  have HB9 := hide_ (HB8.out.trans hb9)
  clear l10 hS9 hb9
  go_wp2_with (go_at_call 37; refine L10.out.mono ?_; rintro e w10 ⟨rfl, hS10, hb10⟩)
  have l11 := Load2_off a hS10
  rw [HE.out.2.1] at l11
  have L11 := hide_ l11
  have HB10 := hide_ (HB9.out.trans hb10)
  clear l11 hS10 hb10
  go_wp2_with (go_at_call 38; refine L11.out.mono ?_; rintro e w11 ⟨rfl, hS11, hb11⟩)
  obtain ⟨g1, g2, g3, g4, g5, g6, g7, g8, g9, g10⟩ := HSUM.out
  have l12 := Load2_off ((a + 2) % 4294967296) hS11
  rw [HE.out.2.2.1] at l12
  have L12 := hide_ l12
  have HB11 := hide_ (HB10.out.trans hb11)
  clear l12 hS11 hb11
  go_wp2_with (go_at_call 38; refine L12.out.mono ?_; rintro e w12 ⟨rfl, hS12, hb12⟩)
  have l13 := Load2_off ((a + 1) % 4294967296) hS12
  rw [HE.out.2.2.2.1] at l13
  have L13 := hide_ l13
  have HB12 := hide_ (HB11.out.trans hb12)
  clear l13 hS12 hb12
  go_wp2_with (go_at_call 38; refine L13.out.mono ?_; rintro e w13 ⟨rfl, hS13, hb13⟩)
  have l14 := Load1_off ((a + 1) % 4294967296) hS13
  rw [HE.out.2.2.2.2.1] at l14
  have L14 := hide_ l14
  have HB13 := hide_ (HB12.out.trans hb13)
  clear l14 hS13 hb13
  go_wp2_with (go_at_call 39; refine L14.out.mono ?_; rintro e w14 ⟨rfl, hS14, hb14⟩)
  have l15 := Load1_off ((a + 2) % 4294967296) hS14
  rw [HE.out.2.2.2.2.2] at l15
  have L15 := hide_ l15
  have HB14 := hide_ (HB13.out.trans hb14)
  clear l15 hS14 hb14
  go_wp2_with (go_at_call 39; refine L15.out.mono ?_; rintro e w15 ⟨rfl, hS15, hb15⟩)
  clear g1 g2 g3 g4 g5 g6 g7 g8 g9 g10
  have HB15 := hide_ (HB14.out.trans hb15)
  have s16 := hide_ (Store2_off r ((v + 1) % 4294967296) hS15 (by omega) (by omega))
  clear hS15 hb15
  refine s16.out.mono ?_
  rintro e w16 ⟨rfl, hS16, hb16⟩
  have HB16 := hide_ (HB15.out.trans hb16)
  have s17 := hide_ (Store1_off ((a + 2) % 4294967296) ((v + 2) % 4294967296) hS16 (by omega) (by omega))
  clear hS16 hb16
  go_wp2_with (go_at_call 41; refine s17.out.mono ?_; rintro e w17 ⟨rfl, hS17, hb17⟩)
  have l18 := Load4_off a hS17
  have hmx := HMX.out
  rw [HV.out.1, HV.out.2] at hmx
  rw [hmx] at l18
  rw [show (v + 1) % 4294967296 % 65536 + (v + 2) % 4294967296 % 256 * 65536 + v / 16777216 * 16777216 = (v + 1) % 65536 + (v + 2) % 256 * 65536 + v / 16777216 * 16777216 by omega] at l18
  have L18 := hide_ l18
  have HB17 := hide_ (HB16.out.trans hb17)
  clear l18 hmx hS17 hb17
  refine L18.out.mono ?_
  rintro e w18 ⟨rfl, hS18, hb18⟩
  have hB18 := HB17.out.trans hb18
  obtain ⟨r1, _, _, _, rl⟩ := HCELL.out w18 hB18
  have HB18 := hide_ hB18
  have HS18 := hide_ hS18
  clear hS18 hb18 hB18
  obtain ⟨zs3, hzs3⟩ : ∃ z, z = puts N ((a + 2) % 4294967296) (bytes4 ((v + 2) % 4294967296)) (puts N r (bytes4 ((v + 1) % 4294967296)) ys 2) 1 := ⟨_, rfl⟩
  rw [← hzs3] at HS18
  have hzl : zs3.length = N := HS18.out.len
  have hznl : zs.length = n := by simpa using HSEED.out.1
  have HTK : Hid (∀ nn, nn ≤ n → (zs.take nn).length = nn) := hide_ fun nn h => by rw [List.length_take]; omega
  have HPRE : Hid (∀ W' nn, Below (w.heap.size + 1) W1 W' → nn ≤ n → Reads W' w.heap.size 1 A nn (u8s (zs.take nn))) := hide_ fun W' nn hb h => by
    have h1 := HSD.out W' hb
    have e : u8s zs = u8s (zs.take nn) ++ u8s (zs.drop nn) := by rw [← u8s_app, List.take_append_drop]
    rw [e, show n = nn + (n - nn) by omega] at h1
    exact rpre h1 (by simp; omega)
  have HWR : Hid (∀ nn, nn ≤ n → nn ≤ 4096 → Calls Try.prog 42 #[.pointer (some ⟨g, 0, none⟩), .int .u32 a, .slice A nn c] w18 fun e W' => e = .returned (.int .i64 0) ∧ Seg W' (w.heap.size + 1) g d N c2 (puts N a (zs.take nn) zs3 nn) [] ∧ Below (w.heap.size + 1) w18 W') := hide_ fun nn h1 h2 =>
    Write_off a A nn c w.heap.size (zs.take nn) HS18.out a0 (by omega) h2 (HPRE.out w18 nn HB18.out h1) (by omega) (fun x hx => HZS.out x (List.mem_of_mem_take hx))
  have HRD : Hid (∀ W nn, Seg W (w.heap.size + 1) g d N c2 (puts N a (zs.take nn) zs3 nn) [] → nn ≤ n → nn ≤ 4096 → nn ≤ N → Calls Try.prog 43 #[.pointer (some ⟨g, 0, none⟩), .int .u32 r, .int .i64 nn] W fun e W' => ∃ o, e = .returned (.tuple #[.slice (some ⟨o, 0, none⟩) nn nn, .int .i64 0]) ∧ Seg W' (w.heap.size + 1) g d N c2 (puts N a (zs.take nn) zs3 nn) (outR o nn nn (zs.take nn) :: []) ∧ Below (w.heap.size + 1) W W') := hide_ fun W nn hS h1 h2 h3 => by
    have h := Read_off r nn hS hR0.1 (by omega) h2
    rw [readN_congr HPP.out] at h
    have h9 := readN_puts hpow (a := a) (ys := zs.take nn) hzl (by rw [HTK.out nn h1]; exact h3)
    rw [HTK.out nn h1] at h9
    rw [h9] at h
    exact h
  have HSB : Hid (∀ W nn o, Seg W (w.heap.size + 1) g d N c2 (puts N a (zs.take nn) zs3 nn) (outR o nn nn (zs.take nn) :: []) → Below (w.heap.size + 1) W1 W → nn ≤ n → nn ≤ 4096 → Calls Try.prog 32 #[.slice (some ⟨o, 0, none⟩) nn nn, .slice A nn c] W fun e W' => e = .returned (.bool true) ∧ ∃ nq, W' = W.drewN nq) := hide_ fun W nn o hS hb h1 h2 => by
    obtain ⟨⟨tv, hO⟩, hbs, _⟩ := hS
    have hr1 : Reads W W.heap.size 1 (some ⟨o, 0, none⟩) nn (u8s (zs.take nn)) := Reads.of_own (hO.at_ (i := 3) rfl)
    have hr2 := (HPRE.out W nn hb h1).more (show w.heap.size ≤ W.heap.size by omega)
    have := SameBytes_any (some ⟨o, 0, none⟩) A nn nn nn c (zs.take nn) (zs.take nn) W.heap.size W hr1 hr2 (by unfold maxLen; omega) (by unfold maxLen; omega)
    rw [decide_eq_true rfl] at this
    exact this
  clear hzs3 hzl hznl
  go_wp2_with (first
    | (go_at_call 42; refine (HWR.out _ (by omega) (by omega)).mono ?_; rintro e w19 ⟨rfl, hS19, hb19⟩; have hB19 := HB18.out.trans hb19)
    | (go_at_call 43; refine (HRD.out _ _ hS19 (by omega) (by omega) (by omega)).mono ?_; rintro e w20 ⟨o2, rfl, hS20, hb20⟩; have hB20 := hB19.trans hb20; obtain ⟨r20, _, _, _, rl20⟩ := HCELL.out w20 hB20)
    | (go_at_call 32; refine (HSB.out _ _ _ hS20 hB20 (by omega) (by omega)).mono ?_; rintro e w21 ⟨rfl, nq21, rfl⟩))
  all_goals
    go_ret
    exact ⟨rfl, HFIN.out _ (below_draws2 hB20 nq21)⟩
end Go.Proofs.Ytgppbdcnpailaaa
