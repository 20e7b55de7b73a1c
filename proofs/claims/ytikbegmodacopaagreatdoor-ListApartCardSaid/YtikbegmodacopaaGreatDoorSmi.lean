/-
  Are two images the same? The document's answer.
-/
import Derived.Test.YtikbegmodacopaaGreatDoorApR
namespace Go.Proofs.YtikbegmodacopaaGreatDoor
open Go.RowKit Go.PlainAid Go.BigFrame
set_option linter.unusedSimpArgs false
set_option linter.unusedVariables false
set_option maxRecDepth 100000
theorem u32_cell {W : World} {B n k : Nat} {A : Option Addr} {l : List Int} {v : Int} (hr : Reads W B 1 A n (u32s l)) (hn : l.length = n) (h : l[k]? = some v) : ∃ ad, A = some ad ∧ (ad.add k).block < B ∧ W.cell? (ad.add k) = some (.int .u32 v) := by
  obtain ⟨ad, e, hb, hc⟩ := hr.2 (by have := (List.getElem?_eq_some_iff.1 h).1; omega)
  exact ⟨ad, e, by rw [block_of_add]; exact hb, hc k _ (u32s_get h)⟩
theorem u8_cell {W : World} {B n k : Nat} {A : Option Addr} {l : List Int} {v : Int} (hr : Reads W B 1 A n (u8s l)) (hn : l.length = n) (h : l[k]? = some v) : ∃ ad, A = some ad ∧ (ad.add k).block < B ∧ W.cell? (ad.add k) = some (.int .u8 v) := by
  obtain ⟨ad, e, hb, hc⟩ := hr.2 (by have := (List.getElem?_eq_some_iff.1 h).1; omega)
  exact ⟨ad, e, by rw [block_of_add]; exact hb, hc k _ (by unfold u8s; rw [List.getElem?_map, h]; rfl)⟩
/-- alike up to a place -/
def Upto {α : Type} (a b : List α) (k : Nat) : Prop := ∀ j, j < k → a[j]? = b[j]?
theorem Upto.zero {α : Type} (a b : List α) : Upto a b 0 := fun j h => absurd h (by omega)
theorem Upto.next {α : Type} {a b : List α} {k : Nat} (h : Upto a b k) (e : a[k]? = b[k]?) : Upto a b (k + 1) := fun j hj => by
  by_cases hjk : j = k
  · rw [hjk]; exact e
  · exact h j (by omega)
theorem Upto.all {α : Type} {a b : List α} {n : Nat} (h : Upto a b n) (ha : a.length = n) (hb : b.length = n) : a = b := List.ext_getElem? fun i => by
  by_cases hi : i < n
  · exact h i hi
  · rw [List.getElem?_eq_none (by omega), List.getElem?_eq_none (by omega)]
theorem ne_at {α : Type} {a b : List α} {k : Nat} {u v : α} (ha : a[k]? = some u) (hb : b[k]? = some v) (h : u ≠ v) : a ≠ b := fun e => by
  rw [e, hb] at ha
  exact h (Option.some.inj ha).symm
theorem sw_eq (n : Nat) : ((n : Int) != (n : Int)) = false := by simp
theorem sw_ne {n m : Nat} (h : n ≠ m) : ((n : Int) != (m : Int)) = true := by
  simp
  omega
instance : DecidableEq ImgV := fun a b => decidable_of_iff (a.code = b.code ∧ a.jumps = b.jumps ∧ a.data = b.data ∧ a.names = b.names ∧ a.zero = b.zero ∧ a.stack = b.stack) (by
  cases a
  cases b
  simp only [ImgV.mk.injEq]
  constructor
  · rintro ⟨h1, h2, h3, h4, h5, h6⟩; exact ⟨h1, h2, h3, h5, h6, h4⟩
  · rintro ⟨h1, h2, h3, h5, h6, h4⟩; exact ⟨h1, h2, h3, h4, h5, h6⟩)
set_option maxHeartbeats 4000000 in
theorem SameImage_any (x y : ImgV) (s t : ImgS) (B : Nat) (w : World) (hx : ImgOk x) (hy : ImgOk y) (ha : ImgR w B x s) (hb : ImgR w B y t) (hB : B ≤ w.heap.size) :
    Calls Tryz.prog 26 #[.agg (imgV x s), .agg (imgV y t)] w fun e w' => e = .returned (.bool (decide (x = y))) ∧ Below w.heap.size w w' := by
  obtain ⟨l1, l2, l3, l4⟩ := hx.lens
  obtain ⟨W1, hW1⟩ : ∃ W, W = ((w.alloc (.cells (imgV x s) 28)).alloc (.cells (imgV y t) 28)) := ⟨_, rfl⟩
  have hs1 : W1.heap.size = w.heap.size + 2 := by rw [hW1]; simp
  have HS1 := hide_ hs1
  have HB1 := hide_ (show Below w.heap.size w W1 by rw [hW1]; exact ((Below.refl _ _).alloc (Nat.le_refl _) _).alloc (by simp) _)
  have K1 := hide_ (show Blk W1 w.heap.size 28 (imgV x s) by
    rw [hW1]
    exact (Blk.new w 28 (imgV x s)).below ((Below.refl _ _).alloc (Nat.le_refl _) _) (by simp))
  have K2 := hide_ (show Blk W1 (w.heap.size + 1) 28 (imgV y t) by
    rw [hW1]
    have := Blk.new (w.alloc (.cells (imgV x s) 28)) 28 (imgV y t)
    simpa using this)
  have HAX := hide_ (fun W (hd : Drew W1 W) => img_cells (K1.out.below (hd.below W1.heap.size) (by rw [HS1.out]; omega)))
  have HAY := hide_ (fun W (hd : Drew W1 W) => img_cells (K2.out.below (hd.below W1.heap.size) (by rw [HS1.out]; omega)))
  have HRX := hide_ (fun W (hd : Drew W1 W) => ha.below ((HB1.out.trans (hd.below w.heap.size)).mono hB))
  have HRY := hide_ (fun W (hd : Drew W1 W) => hb.below ((HB1.out.trans (hd.below w.heap.size)).mono hB))
  have HBB := hide_ (fun W (hd : Drew W1 W) => show B ≤ W.heap.size by rw [hd.size, HS1.out]; omega)
  have HZZ := hide_ (fun W (hd : Drew W1 W) => show Below w.heap.size w W from HB1.out.trans (hd.below w.heap.size))
  have HSZ := hide_ (fun W (hd : Drew W1 W) => show w.heap.size < W.heap.size ∧ w.heap.size + 1 < W.heap.size by rw [hd.size, HS1.out]; omega)
  obtain ⟨r, hr⟩ : ∃ r, r = decide (x = y) := ⟨_, rfl⟩
  have HNO := hide_ (fun (h : x.code ≠ y.code ∨ x.jumps ≠ y.jumps ∨ x.data ≠ y.data ∨ x.names ≠ y.names ∨ x.zero ≠ y.zero ∨ x.stack ≠ y.stack) => show false = r by
    rw [hr]
    refine (decide_eq_false fun e => ?_).symm
    subst e
    simp at h)
  have HYES := hide_ (fun (h1 : x.code = y.code) (h2 : x.jumps = y.jumps) (h3 : x.data = y.data) (h4 : x.names = y.names) (h5 : x.zero = y.zero) (h6 : x.stack = y.stack) => show true = r by
    rw [hr]
    refine (decide_eq_true ?_).symm
    cases x
    cases y
    simp only [ImgV.mk.injEq]
    exact ⟨h1, h2, h3, h5, h6, h4⟩)
  rw [← hr]
  clear hr K1 K2 ha hb hx hy hB hs1
  unfold imgV at hW1 ⊢
  obtain ⟨⟨aC, a0⟩, ⟨aJ, a1⟩, ⟨aD, a2⟩, ⟨aN, a3⟩⟩ := s
  obtain ⟨⟨bC, b0⟩, ⟨bJ, b1⟩, ⟨bD, b2⟩, ⟨bN, b3⟩⟩ := t
  obtain ⟨xc, xj, xd, xz, xs, xn⟩ := x
  obtain ⟨yc, yj, yd, yz, ys, yn⟩ := y
  dsimp only at hW1 HAX HAY HRX HRY HNO HYES l1 l2 l3 l4 ⊢
  obtain ⟨n, hn⟩ : ∃ n, n = xc.length := ⟨_, rfl⟩
  obtain ⟨n', hn'⟩ : ∃ n, n = yc.length := ⟨_, rfl⟩
  obtain ⟨j, hj⟩ : ∃ n, n = xj.length := ⟨_, rfl⟩
  obtain ⟨j', hj'⟩ : ∃ n, n = yj.length := ⟨_, rfl⟩
  obtain ⟨d, hd⟩ : ∃ n, n = xd.length := ⟨_, rfl⟩
  obtain ⟨d', hd'⟩ : ∃ n, n = yd.length := ⟨_, rfl⟩
  obtain ⟨m, hm⟩ : ∃ n, n = xn.length := ⟨_, rfl⟩
  obtain ⟨m', hm'⟩ : ∃ n, n = yn.length := ⟨_, rfl⟩
  rw [← hn, ← hj, ← hd, ← hm, ← hn', ← hj', ← hd', ← hm'] at hW1 ⊢
  rw [← hn, ← hj, ← hd, ← hm] at HAX
  rw [← hn', ← hj', ← hd', ← hm'] at HAY
  rw [← hn] at l1
  rw [← hj] at l2
  rw [← hd] at l3
  rw [← hm] at l4
  have HN := hide_ hn.symm
  have HN' := hide_ hn'.symm
  have HJ := hide_ hj.symm
  have HJ' := hide_ hj'.symm
  have HD := hide_ hd.symm
  have HD' := hide_ hd'.symm
  have HM := hide_ hm.symm
  have HM' := hide_ hm'.symm
  clear hn hn' hj hj' hd hd' hm hm'
  obtain ⟨f0, f1, f2, f3, f4, f5⟩ := HAX.out W1 (Drew.refl W1)
  obtain ⟨g0, g1, g2, g3, g4, g5⟩ := HAY.out W1 (Drew.refl W1)
  obtain ⟨z0, z1⟩ := HSZ.out W1 (Drew.refl W1)
  have HR0 := hide_ (Drew.refl W1)
  go_enter Tryz.func26, Tryz.ntmps26
  go_upto_region 1 with (fail)
  rw [← hW1]
  clear hW1
  by_cases c1 : n ≠ n'
  · have q1 := sw_ne c1
    go_wp2
    go_ret
    exact ⟨congrArg (fun b => Ending.returned (.bool b)) (HNO.out (.inl fun e => c1 (by rw [← HN.out, ← HN'.out, e]))), HZZ.out _ HR0.out⟩
  obtain rfl : n = n' := Classical.not_not.1 c1
  clear c1
  have q1 := sw_eq n
  by_cases c2 : j ≠ j'
  · have q2 := sw_ne c2
    go_wp2
    go_ret
    exact ⟨congrArg (fun b => Ending.returned (.bool b)) (HNO.out (.inr (.inl fun e => c2 (by rw [← HJ.out, ← HJ'.out, e])))), HZZ.out _ HR0.out⟩
  obtain rfl : j = j' := Classical.not_not.1 c2
  clear c2
  have q2 := sw_eq j
  by_cases c3 : d ≠ d'
  · have q3 := sw_ne c3
    go_wp2
    go_ret
    exact ⟨congrArg (fun b => Ending.returned (.bool b)) (HNO.out (.inr (.inr (.inl fun e => c3 (by rw [← HD.out, ← HD'.out, e]))))), HZZ.out _ HR0.out⟩
  obtain rfl : d = d' := Classical.not_not.1 c3
  clear c3
  have q3 := sw_eq d
  by_cases c4 : m ≠ m'
  · have q4 := sw_ne c4
    go_wp2
    go_ret
    exact ⟨congrArg (fun b => Ending.returned (.bool b)) (HNO.out (.inr (.inr (.inr (.inl fun e => c4 (by rw [← HM.out, ← HM'.out, e])))))), HZZ.out _ HR0.out⟩
  obtain rfl : m = m' := Classical.not_not.1 c4
  clear c4
  have q4 := sw_eq m
  go_wp2
  clear q1 q2 q3 q4
  go_loopw [5] (fun i wr => ∃ k : Nat, k ≤ n ∧ i = .int .i64 k ∧ Drew W1 wr ∧ Hid (Upto xc yc k)) (fun i _ => n - (intOf i).toNat)
  case atStart => exact ⟨0, Nat.zero_le _, rfl, HR0.out, hide_ (Upto.zero _ _)⟩
  case round =>
    clear f0 f1 f2 f3 f4 f5 g0 g1 g2 g3 g4 g5 z0 z1 HR0
    obtain ⟨k, hk, rfl, hd, HU⟩ := hrel
    have HR0 := hide_ hd
    obtain ⟨f0, f1, f2, f3, f4, f5⟩ := HAX.out wr hd
    obtain ⟨g0, g1, g2, g3, g4, g5⟩ := HAY.out wr hd
    obtain ⟨z0, z1⟩ := HSZ.out wr hd
    by_cases hlt : k < n
    · obtain ⟨u, hu⟩ : ∃ u, xc[k]? = some u := ⟨_, List.getElem?_eq_getElem (by have := HN.out; omega)⟩
      obtain ⟨v, hv⟩ : ∃ v, yc[k]? = some v := ⟨_, List.getElem?_eq_getElem (by have := HN'.out; omega)⟩
      have HUV := hide_ (fun (h : u ≠ v) => ne_at hu hv h)
      have HNX := hide_ (fun (h : u = v) => HU.out.next (by rw [hu, hv, h]))
      obtain ⟨_, ad, rfl, hbk, p0, p1⟩ := el_cells cE_len (HRX.out wr hd).rc (by omega) hu
      obtain ⟨_, ad', rfl, hbk', r0, r1⟩ := el_cells cE_len (HRY.out wr hd).rc (by omega) hv
      have x0 := p0 _ rfl
      have x1 := p1 1 _ (by omega) rfl
      have y0 := r0 _ rfl
      have y1 := r1 1 _ (by omega) rfl
      obtain ⟨op, arg⟩ := u
      obtain ⟨op', arg'⟩ := v
      dsimp only at x0 x1 y0 y1
      have hb1 := Nat.lt_of_lt_of_le hbk (HBB.out wr hd)
      have hb2 := Nat.lt_of_lt_of_le hbk' (HBB.out wr hd)
      clear p0 p1 r0 r1 hbk hbk' hu hv hd
      by_cases e1 : op ≠ op'
      · have d1 : (op != op') = true := by simpa using e1
        go_wp2
        go_big_quiet (fail)
        go_wp2
        go_ret
        exact ⟨congrArg (fun b => Ending.returned (.bool b)) (HNO.out (.inl (HUV.out (fun e => e1 (Prod.mk.inj e).1)))), HZZ.out _ (HR0.out.more _)⟩
      · obtain rfl : op = op' := Classical.not_not.1 e1
        clear e1
        have d1 : (op != op) = false := by simp
        by_cases e2 : arg ≠ arg'
        · have d2 : (arg != arg') = true := by simpa using e2
          go_wp2
          go_big_quiet (fail)
          go_wp2
          go_ret
          exact ⟨congrArg (fun b => Ending.returned (.bool b)) (HNO.out (.inl (HUV.out (fun e => e2 (Prod.mk.inj e).2)))), HZZ.out _ (HR0.out.more _)⟩
        · obtain rfl : arg = arg' := Classical.not_not.1 e2
          clear e2
          have d2 : (arg != arg) = false := by simp
          go_wp2
          go_big_quiet (fail)
          go_wp2
          go_roundw
          case rel => exact ⟨k + 1, by omega, by go_num, HR0.out.more _, hide_ (HNX.out (by trivial))⟩
          case measure => simp [intOf]; omega
    · obtain rfl : n = k := by omega
      have HE0 := hide_ (HU.out.all HN.out HN'.out)
      clear HU hd hk hlt
      go_wp2
      obtain ⟨wo0, hwo0⟩ : ∃ wo : World, wo = wr := ⟨_, rfl⟩
      subst hwo0
      go_loopw [6] (fun i wr => ∃ k : Nat, k ≤ j ∧ i = .int .i64 k ∧ Drew W1 wr ∧ Hid (Upto xj yj k)) (fun i _ => j - (intOf i).toNat)
      case atStart => exact ⟨0, Nat.zero_le _, rfl, HR0.out, hide_ (Upto.zero _ _)⟩
      case round =>
        clear f0 f1 f2 f3 f4 f5 g0 g1 g2 g3 g4 g5 z0 z1 HR0
        obtain ⟨k, hk, rfl, hd, HU⟩ := hrel
        have HR0 := hide_ hd
        obtain ⟨f0, f1, f2, f3, f4, f5⟩ := HAX.out wr hd
        obtain ⟨g0, g1, g2, g3, g4, g5⟩ := HAY.out wr hd
        obtain ⟨z0, z1⟩ := HSZ.out wr hd
        by_cases hlt : k < j
        · obtain ⟨u, hu⟩ : ∃ u, xj[k]? = some u := ⟨_, List.getElem?_eq_getElem (by have := HJ.out; omega)⟩
          obtain ⟨v, hv⟩ : ∃ v, yj[k]? = some v := ⟨_, List.getElem?_eq_getElem (by have := HJ'.out; omega)⟩
          have HUV := hide_ (fun (h : u ≠ v) => ne_at hu hv h)
          have HNX := hide_ (fun (h : u = v) => HU.out.next (by rw [hu, hv, h]))
          obtain ⟨ad, rfl, hbk, x0⟩ := u32_cell (HRX.out wr hd).rj rfl hu
          obtain ⟨ad', rfl, hbk', y0⟩ := u32_cell (HRY.out wr hd).rj rfl hv
          have hb1 := Nat.lt_of_lt_of_le hbk (HBB.out wr hd)
          have hb2 := Nat.lt_of_lt_of_le hbk' (HBB.out wr hd)
          clear hbk hbk' hu hv hd
          by_cases e1 : u ≠ v
          · have d1 : (u != v) = true := by simpa using e1
            go_wp2
            go_big_quiet (fail)
            go_wp2
            go_ret
            exact ⟨congrArg (fun b => Ending.returned (.bool b)) (HNO.out (.inr (.inl (HUV.out e1)))), HZZ.out _ (HR0.out.more _)⟩
          · obtain rfl : u = v := Classical.not_not.1 e1
            clear e1
            have d1 : (u != u) = false := by simp
            go_wp2
            go_big_quiet (fail)
            go_wp2
            go_roundw
            case rel => exact ⟨k + 1, by omega, by go_num, HR0.out.more _, hide_ (HNX.out (by trivial))⟩
            case measure => simp [intOf]; omega
        · obtain rfl : j = k := by omega
          have HE1 := hide_ (HU.out.all HJ.out HJ'.out)
          clear HU hd hk hlt
          go_wp2
          obtain ⟨wo1, hwo1⟩ : ∃ wo : World, wo = wr := ⟨_, rfl⟩
          subst hwo1
          go_loopw [7] (fun i wr => ∃ k : Nat, k ≤ d ∧ i = .int .i64 k ∧ Drew W1 wr ∧ Hid (Upto xd yd k)) (fun i _ => d - (intOf i).toNat)
          case atStart => exact ⟨0, Nat.zero_le _, rfl, HR0.out, hide_ (Upto.zero _ _)⟩
          case round =>
            clear f0 f1 f2 f3 f4 f5 g0 g1 g2 g3 g4 g5 z0 z1 HR0
            obtain ⟨k, hk, rfl, hd, HU⟩ := hrel
            have HR0 := hide_ hd
            obtain ⟨f0, f1, f2, f3, f4, f5⟩ := HAX.out wr hd
            obtain ⟨g0, g1, g2, g3, g4, g5⟩ := HAY.out wr hd
            obtain ⟨z0, z1⟩ := HSZ.out wr hd
            by_cases hlt : k < d
            · obtain ⟨u, hu⟩ : ∃ u, xd[k]? = some u := ⟨_, List.getElem?_eq_getElem (by have := HD.out; omega)⟩
              obtain ⟨v, hv⟩ : ∃ v, yd[k]? = some v := ⟨_, List.getElem?_eq_getElem (by have := HD'.out; omega)⟩
              have HUV := hide_ (fun (h : u ≠ v) => ne_at hu hv h)
              have HNX := hide_ (fun (h : u = v) => HU.out.next (by rw [hu, hv, h]))
              obtain ⟨ad, rfl, hbk, x0⟩ := u8_cell (HRX.out wr hd).rd rfl hu
              obtain ⟨ad', rfl, hbk', y0⟩ := u8_cell (HRY.out wr hd).rd rfl hv
              have hb1 := Nat.lt_of_lt_of_le hbk (HBB.out wr hd)
              have hb2 := Nat.lt_of_lt_of_le hbk' (HBB.out wr hd)
              clear hbk hbk' hu hv hd
              by_cases e1 : u ≠ v
              · have d1 : (u != v) = true := by simpa using e1
                go_wp2
                go_big_quiet (fail)
                go_wp2
                go_ret
                exact ⟨congrArg (fun b => Ending.returned (.bool b)) (HNO.out (.inr (.inr (.inl (HUV.out e1))))), HZZ.out _ (HR0.out.more _)⟩
              · obtain rfl : u = v := Classical.not_not.1 e1
                clear e1
                have d1 : (u != u) = false := by simp
                go_wp2
                go_big_quiet (fail)
                go_wp2
                go_roundw
                case rel => exact ⟨k + 1, by omega, by go_num, HR0.out.more _, hide_ (HNX.out (by trivial))⟩
                case measure => simp [intOf]; omega
            · obtain rfl : d = k := by omega
              have HE2 := hide_ (HU.out.all HD.out HD'.out)
              clear HU hd hk hlt
              go_wp2
              obtain ⟨wo2, hwo2⟩ : ∃ wo : World, wo = wr := ⟨_, rfl⟩
              subst hwo2
              go_loopw [8] (fun i wr => ∃ k : Nat, k ≤ m ∧ i = .int .i64 k ∧ Drew W1 wr ∧ Hid (Upto xn yn k)) (fun i _ => m - (intOf i).toNat)
              case atStart => exact ⟨0, Nat.zero_le _, rfl, HR0.out, hide_ (Upto.zero _ _)⟩
              case round =>
                clear f0 f1 f2 f3 f4 f5 g0 g1 g2 g3 g4 g5 z0 z1 HR0
                obtain ⟨k, hk, rfl, hd, HU⟩ := hrel
                have HR0 := hide_ hd
                obtain ⟨f0, f1, f2, f3, f4, f5⟩ := HAX.out wr hd
                obtain ⟨g0, g1, g2, g3, g4, g5⟩ := HAY.out wr hd
                obtain ⟨z0, z1⟩ := HSZ.out wr hd
                by_cases hlt : k < m
                · obtain ⟨u, hu⟩ : ∃ u, xn[k]? = some u := ⟨_, List.getElem?_eq_getElem (by have := HM.out; omega)⟩
                  obtain ⟨v, hv⟩ : ∃ v, yn[k]? = some v := ⟨_, List.getElem?_eq_getElem (by have := HM'.out; omega)⟩
                  have HUV := hide_ (fun (h : u ≠ v) => ne_at hu hv h)
                  have HNX := hide_ (fun (h : u = v) => HU.out.next (by rw [hu, hv, h]))
                  obtain ⟨_, ad, rfl, hbk, p0, p1⟩ := el_cells xE_len (HRX.out wr hd).rn (by omega) hu
                  obtain ⟨_, ad', rfl, hbk', r0, r1⟩ := el_cells xE_len (HRY.out wr hd).rn (by omega) hv
                  have x0 := p0 _ rfl
                  have x1 := p1 1 _ (by omega) rfl
                  have y0 := r0 _ rfl
                  have y1 := r1 1 _ (by omega) rfl
                  obtain ⟨op, arg⟩ := u
                  obtain ⟨op', arg'⟩ := v
                  dsimp only at x0 x1 y0 y1
                  have hb1 := Nat.lt_of_lt_of_le hbk (HBB.out wr hd)
                  have hb2 := Nat.lt_of_lt_of_le hbk' (HBB.out wr hd)
                  clear p0 p1 r0 r1 hbk hbk' hu hv hd
                  by_cases e1 : op ≠ op'
                  · have d1 : (op.toList == op'.toList) = false := by rw [str_beq, decide_eq_false e1]
                    go_wp2
                    go_big_quiet (fail)
                    go_wp2
                    go_ret
                    exact ⟨congrArg (fun b => Ending.returned (.bool b)) (HNO.out (.inr (.inr (.inr (.inl (HUV.out (fun e => e1 (ExpV.mk.inj e).1))))))), HZZ.out _ (HR0.out.more _)⟩
                  · obtain rfl : op = op' := Classical.not_not.1 e1
                    clear e1
                    have d1 : (op.toList == op.toList) = true := by simp
                    by_cases e2 : arg ≠ arg'
                    · have d2 : (arg != arg') = true := by simpa using e2
                      go_wp2
                      go_big_quiet (fail)
                      go_wp2
                      go_ret
                      exact ⟨congrArg (fun b => Ending.returned (.bool b)) (HNO.out (.inr (.inr (.inr (.inl (HUV.out (fun e => e2 (ExpV.mk.inj e).2))))))), HZZ.out _ (HR0.out.more _)⟩
                    · obtain rfl : arg = arg' := Classical.not_not.1 e2
                      clear e2
                      have d2 : (arg != arg) = false := by simp
                      go_wp2
                      go_big_quiet (fail)
                      go_wp2
                      go_roundw
                      case rel => exact ⟨k + 1, by omega, by go_num, HR0.out.more _, hide_ (HNX.out (by trivial))⟩
                      case measure => simp [intOf]; omega
                · obtain rfl : m = k := by omega
                  have HE3 := hide_ (HU.out.all HM.out HM'.out)
                  clear HU hd hk hlt
                  by_cases e5 : xz = yz
                  · subst e5
                    by_cases e6 : xs = ys
                    · subst e6
                      go_wp2
                      go_ret
                      exact ⟨congrArg (fun b => Ending.returned (.bool b)) (HYES.out HE0.out HE1.out HE2.out HE3.out (by trivial) (by trivial)), HZZ.out _ HR0.out⟩
                    · have d6 : (xs == ys) = false := by simpa using e6
                      go_wp2
                      go_ret
                      exact ⟨congrArg (fun b => Ending.returned (.bool b)) (HNO.out (.inr (.inr (.inr (.inr (.inr (e6))))))), HZZ.out _ HR0.out⟩
                  · have d5 : (xz == yz) = false := by simpa using e5
                    go_wp2
                    go_ret
                    exact ⟨congrArg (fun b => Ending.returned (.bool b)) (HNO.out (.inr (.inr (.inr (.inr (.inl (e5))))))), HZZ.out _ HR0.out⟩
end Go.Proofs.YtikbegmodacopaaGreatDoor
