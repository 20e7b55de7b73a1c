/-
  The walk of the statement MemWithin.
-/
import Derived.Test.YtgppbdcnpailaaaTried
import Derived.Test.YtgppbdcnpailaaaMemCopies
import Derived.Test.YtgppbdcnpailaaaLog
namespace Go.Proofs.Ytgppbdcnpailaaa
open Go.RowKit

/-! ### the plain law: what the log names as written is laid, the rest is as it was -/
def layK (xs xs' : List Int) (ts : List (Int × Bool)) : Nat → List Int
  | 0 => xs
  | k + 1 => if (ts[k]?.getD (0, false)).2 then (layK xs xs' ts k).set (ts[k]?.getD (0, false)).1.toNat (gt xs' (ts[k]?.getD (0, false)).1) else layK xs xs' ts k
theorem layK_len (xs xs' : List Int) (ts : List (Int × Bool)) : ∀ k, (layK xs xs' ts k).length = xs.length
  | 0 => rfl
  | k + 1 => by
    rw [layK]
    split
    · rw [List.length_set]; exact layK_len xs xs' ts k
    · exact layK_len xs xs' ts k
theorem layK_gt {N : Nat} {xs xs' : List Int} {ts : List (Int × Bool)} (hx : xs.length = N) (h : Good N xs xs' ts) (q : Nat) (_hq : q < N) :
    ∀ k, k ≤ ts.length → gt (layK xs xs' ts k) q = if ((q : Int), true) ∈ ts.take k then gt xs' q else gt xs q := by
  intro k
  induction k with
  | zero => intro _; simp [layK]
  | succ k ih =>
    intro hk
    have ih := ih (by omega)
    obtain ⟨⟨p, wr⟩, hp⟩ : ∃ t, ts[k]? = some t := ⟨_, List.getElem?_eq_getElem (by omega)⟩
    have hpm : (p, wr) ∈ ts := List.mem_of_getElem? hp
    obtain ⟨p0, p1⟩ := h.places _ hpm
    simp only at p0 p1
    rw [layK, hp, List.take_add_one, hp]
    simp only [Option.getD_some, Option.toList_some, List.mem_append, List.mem_singleton, Prod.mk.injEq]
    cases wr with
    | false =>
      simp only [Bool.false_eq_true, if_false, and_false, or_false, Bool.true_eq_false]
      exact ih
    | true =>
      simp only [if_true, and_true]
      rw [gt_set _ p0 (by rw [layK_len, hx]; exact p1) (by omega), ih]
      by_cases e : p = q
      · subst e; simp
      · rw [if_neg e]
        by_cases m : ((q : Int), true) ∈ ts.take k
        · rw [if_pos m, if_pos (.inl m)]
        · rw [if_neg m, if_neg (fun h1 => h1.elim m (fun h2 => e h2.symm))]
theorem layK_end {N : Nat} {xs xs' : List Int} {ts : List (Int × Bool)} (hx : xs.length = N) (hx' : xs'.length = N) (h : Good N xs xs' ts) : layK xs xs' ts ts.length = xs' := by
  apply List.ext_getElem?
  intro q
  by_cases hq : q < N
  · have h1 := layK_gt hx h q hq ts.length (Nat.le_refl _)
    rw [List.take_length] at h1
    have h2 : gt (layK xs xs' ts ts.length) q = gt xs' q := by
      rw [h1]
      split
      · rfl
      · next hn => exact (h.same q hq hn).symm
    rw [gt_nat, gt_nat] at h2
    rw [List.getElem?_eq_getElem (by rw [layK_len, hx]; exact hq), List.getElem?_eq_getElem (by omega)] at h2 ⊢
    simpa using h2
  · rw [List.getElem?_eq_none (by rw [layK_len]; omega), List.getElem?_eq_none (by omega)]
theorem layK_ok {xs xs' : List Int} {ts : List (Int × Bool)} (hx : bytesOk xs) (hx' : bytesOk xs') : ∀ k, bytesOk (layK xs xs' ts k)
  | 0 => hx
  | k + 1 => by
    rw [layK]
    split
    · intro x hxm
      rcases List.mem_or_eq_of_mem_set hxm with h | rfl
      · exact layK_ok hx hx' k x h
      · exact gt_bd hx' _
    · exact layK_ok hx hx' k
theorem touch_get (ts : List (Int × Bool)) {k : Nat} {t : Int × Bool} (h : ts[k]? = some t) : (touchCells ts)[k * 2]? = some (.int .u32 t.1) ∧ (touchCells ts)[k * 2 + 1]? = some (.bool t.2) := by
  induction ts generalizing k with
  | nil => simp at h
  | cons a r ih =>
    cases k with
    | zero =>
      have e : a = t := by simpa using h
      subst e
      exact ⟨rfl, rfl⟩
    | succ k =>
      have := ih (k := k) (by simpa using h)
      unfold touchCells at this ⊢
      rw [List.flatMap_cons, show (k + 1) * 2 = k * 2 + 2 by omega, show k * 2 + 2 + 1 = (k * 2 + 1) + 2 by omega]
      simpa using this

section
variable {W : World} {B g d N c : Nat} {logs : Bool} {tv : Value} {ts : List (Int × Bool)} {xs : List Int} {ex : List Ro}
def touchR (A : Option Addr) (m ct : Nat) (ts : List (Int × Bool)) : Ro := ⟨73, 2, .slice A m ct, m, touchCells ts⟩
/-- the log, clipped, and taken out: it lies beside from then on -/
theorem Touched_own (hO : Owns W B (memRows g d N c logs tv ts xs ++ ex)) (hN : IsPow N) :
    Calls Try.prog 46 #[.pointer (some ⟨g, 0, none⟩)] W fun e W' => ∃ A ct, e = .returned (.slice A ts.length ts.length) ∧ Owns W' B (memRows g d N c logs (.slice none 0 0) [] xs ++ (touchR A ts.length ct ts :: ex)) ∧ Below B W W' := by
  have c0 : W.cell? ⟨g, 0, none⟩ = some (.slice (some ⟨d, 0, none⟩) N c) := hO.cell (i := 0) rfl rfl
  have c2 : W.cell? ⟨g, 2, none⟩ = some tv := hO.cell (i := 0) rfl rfl
  obtain ⟨A, ct, htv, hct, hcm⟩ := ownsRow_slice (hO.at_ (i := 2) rfl)
  simp only at htv
  subst htv
  have f2 := hO.frozen (i := 0) rfl 2
  have hb := hO.base (i := 0) rfl
  have hm := hide_ (made_any g d N c W c0 hN.bd.1)
  have h1 := hO.store (i := 0) (e := 83) (size := 1) (n := 3) (g := g) (c := 3) (j := 2) rfl (by simp) (.slice none 0 0)
  have hb1 := (Below.refl B W).setCell (p := ⟨g, 2, none⟩) hb.1 (.slice none 0 0)
  have h2 : Owns (W.setCell ⟨g, 2, none⟩ (.slice none 0 0)) B (memRows g d N c logs (.slice none 0 0) [] xs ++ (touchR A ts.length ct ts :: ex)) := by
    have h3 := h1.nilrow 73 2
    refine h3.swap ?_
    unfold memRows
    simp only [List.cons_append, List.nil_append, List.set_cons_zero, List.set_cons_succ]
    exact .cons _ (.cons _ (List.perm_append_comm (l₁ := touchR A ts.length ct ts :: ex) (l₂ := [_])))
  obtain ⟨m, hmm⟩ : ∃ m, m = ts.length := ⟨_, rfl⟩
  rw [← hmm] at c2 h2 ⊢
  have hct' : m ≤ ct := by rw [hmm]; exact hct
  have H2 := hide_ h2
  have HB1 := hide_ hb1
  clear h1 h2 hb1 hO hmm hct hcm
  have i0 : (0 : Int) ≤ (m : Int) := by omega
  have i1 : (m : Int) ≤ (ct : Int) := by omega
  go_enter Try.func46, Try.ntmps46
  go_wp2_with (go_at_call 76; refine hm.out.mono ?_; rintro e w' ⟨rfl, rfl⟩)
  go_wp2
  go_ret
  exact ⟨A, ct, rfl, H2.out, HB1.out⟩
end

/-! ### the script -/
def SReads (w : World) (B : Nat) (A : Option Addr) (n : Nat) (f : Nat → StepV) : Prop :=
  0 < n → ∃ ad, A = some ad ∧ ad.block < B ∧ ∀ j, j < n → StepOk w B (f j) ∧ ∀ i u, (stepCells (f j))[i]? = some u → w.cell? ((ad.add (j * 8)).add i) = some u
theorem SReads.below {w w' : World} {B n : Nat} {A : Option Addr} {f : Nat → StepV} (h : SReads w B A n f) (hb : Below B w w') : SReads w' B A n f := fun hn => by
  obtain ⟨ad, e, hlt, hj⟩ := h hn
  exact ⟨ad, e, hlt, fun j hjn => ⟨(hj j hjn).1.below hb, fun i u hu => (hb.cell (by rw [block_of_add, block_of_add]; exact hlt)).trans ((hj j hjn).2 i u hu)⟩⟩
theorem step_bytes : Try.prog.bytesOf 79 = 56 := by kernel_rfl
theorem seen_script {H : Type} {enc : TypeId × Value → H} {w : World} {held : Bool} {cs : List Value} (h : Seen enc Try.prog w held 77 cs) :
    ∃ (A : Option Addr) (n c : Nat) (f : Nat → StepV), cs = [.slice A n c] ∧ n ≤ c ∧ c * 56 ≤ 140737488351232 ∧ SReads w w.heap.size A n f := by
  obtain ⟨A, n, c, rfl, h1, _, h3, h4⟩ := seen_slice Try.underlying77 (by rw [step_cells]; decide) h
  rw [step_bytes] at h3
  have h3' : c * 56 ≤ 140737488351232 := h3
  haveI : Inhabited StepV := ⟨⟨0, 0, 0, 0, 0, 0, false, none, 0, 0, []⟩⟩
  rcases Nat.eq_zero_or_pos n with rfl | hn
  · exact ⟨A, 0, c, fun _ => default, rfl, h1, h3', fun h => absurd h (by omega)⟩
  · obtain ⟨ad, rfl, hb, hi⟩ := h4 hn
    have hv : ∀ i, i < n → ∃ x : StepV, StepOk w w.heap.size x ∧ ∀ j u, (stepCells x)[j]? = some u → w.cell? ((ad.add (i * 8)).add j) = some u := by
      intro i hlt
      obtain ⟨vs, _, hcell, hs⟩ := hi i hlt
      obtain ⟨x, rfl, hx⟩ := seen_step hs
      rw [step_cells] at hcell
      refine ⟨x, hx, fun j u hu => ?_⟩
      have hj : j < 8 := (List.getElem?_eq_some_iff.1 hu).1
      exact (hcell j hj).trans hu
    obtain ⟨f, hf⟩ := skolem_lt hv
    exact ⟨some ad, n, c, f, rfl, h1, h3', fun _ => ⟨ad, rfl, hb, hf⟩⟩
def stepBox (q : Nat) (x : StepV) : Ro := ⟨79, 1, .slice (some ⟨q, 0, none⟩) 8 8, 8, stepCells x⟩
set_option maxRecDepth 100000 in
set_option maxHeartbeats 2000000 in
theorem MemWithin_walk (bits : Int) (A : Option Addr) (n c : Nat) (zs : List Int) (As : Option Addr) (ns cs : Nat) (f : Nat → StepV) (w : World) (b0 : 0 ≤ bits) (b1 : bits < 256) (hseed : Reads w w.heap.size 1 A n (u8s zs)) (hzs : bytesOk zs) (hn : n ≤ 140737488351232) (hsc : SReads w w.heap.size As ns f) (hns : ns ≤ 140737488351232) :
    Calls Try.prog 12 #[.int .u8 bits, .slice A n c, .slice As ns cs] w fun e w' => e = .returned (.bool true) ∧ Below w.heap.size w w' := by
  obtain ⟨K, hK⟩ : ∃ K : Nat, bits % 9 = (K : Int) := Int.eq_ofNat_of_zero_le (by omega)
  have hmade := hide_ (made_seg bits K hK A n c w.heap.size zs b0 b1 (W := w) (B := w.heap.size) (ex := []) (Owns.nil_) (Nat.le_refl _) hseed (Nat.le_refl _) hn)
  have HZS := hide_ hzs
  have HSC := hide_ hsc
  have hK8 : K ≤ 8 := by omega
  clear hseed hzs hK b0 b1 hn hsc
  go_enter Try.func12, Try.ntmps12
  go_wp2_with fail
  refine hmade.out.mono ?_
  rintro e w2 ⟨g, d, c2, rfl, hO2, hb2⟩
  obtain ⟨N, hN⟩ : ∃ N, N = 2 ^ (8 + K) := ⟨_, rfl⟩
  rw [← hN] at hO2
  have hseg : IsSeg N := ⟨8 + K, by omega, by omega, hN⟩
  obtain ⟨xs, hxs⟩ : ∃ xs, xs = seedXs zs N := ⟨_, rfl⟩
  have hS2 : Seg w2 w.heap.size g d N c2 xs [] := ⟨⟨_, by rw [hxs]; exact hO2⟩, hb2.size, hseg, by rw [hxs]; exact seedXs_len _ _, by rw [hxs]; exact seedXs_ok HZS.out _⟩
  have HSG := hide_ hseg
  have HS2 := hide_ hS2
  have HB2 := hide_ hb2
  clear hO2 hb2 hN hseg hmade hxs hS2 hK8
  go_wp2_with fail
  refine (awake_any w2).mono ?_
  rintro e w3 ⟨rfl, hb3⟩
  have hS3 := HS2.out.below hb3
  have hB3 : Below w.heap.size w w3 := HB2.out.trans (hb3.mono HB2.out.size)
  have h4 := hide_ (Bytes_off hS3)
  have HB3 := hide_ hB3
  clear HS2 hb3 hS3 hB3 HB2
  go_wp2_with fail
  refine h4.out.mono ?_
  rintro e w4 ⟨o4, co4, rfl, _, hS4, hb4⟩
  have hB4 : Below w.heap.size w w4 := HB3.out.trans (hb4.mono HB3.out.size)
  clear h4 hb4
  go_wp2
  go_loopw [30] (fun i wr => ∃ k : Nat, k ≤ ns ∧ i = .int .i64 k ∧ ∃ (lg : Bool) (tv : Value) (ts : List (Int × Bool)) (xs : List Int), Owns wr w.heap.size (memRows g d N c2 lg tv ts xs ++ []) ∧ xs.length = N ∧ bytesOk xs ∧ Below w.heap.size w wr) (fun i _ => ns - (intOf i).toNat)
  case atStart =>
    obtain ⟨⟨tv, h1⟩, _, _, h4, h5⟩ := hS4
    exact ⟨0, Nat.zero_le _, rfl, false, tv, [], xs, h1, h4, h5, hB4⟩
  case round =>
    clear hS4 hB4
    obtain ⟨k, hk, rfl, lg, tv, ts, xs, hO, hxl, hxo, hb⟩ := hrel
    by_cases hlt : k < ns
    · obtain ⟨ad, rfl, hab, hj⟩ := HSC.out.below hb (by omega)
      obtain ⟨hok, hc⟩ := hj k hlt
      obtain ⟨x, hx⟩ : ∃ x, x = f k := ⟨_, rfl⟩
      rw [← hx] at hok hc
      have e0 : (ad.add (k * 8)).add 0 = ad.add (k * 8) := by simp [Addr.add]
      have eN : ∀ i, 0 < i → (ad.add (k * 8)).add i = ⟨(ad.add (k * 8)).block, (ad.add (k * 8)).off + i, none⟩ := fun i hi => by unfold Addr.add; simp; omega
      have hbk : (ad.add (k * 8)).block < wr.heap.size := by rw [block_of_add]; have := hb.size; omega
      have q0 := hc 0 _ rfl
      have q1 := hc 1 _ rfl
      have q2 := hc 2 _ rfl
      have q3 := hc 3 _ rfl
      have q4 := hc 4 _ rfl
      have q5 := hc 5 _ rfl
      have q6 := hc 6 _ rfl
      have q7 := hc 7 _ rfl
      rw [e0] at q0
      rw [eN _ (by omega)] at q1 q2 q3 q4 q5 q6 q7
      have hO5 : Owns (wr.alloc (.cells (stepCells x).toArray 79)) w.heap.size (memRows g d N c2 lg tv ts xs ++ [stepBox wr.heap.size x]) := hO.box 79 (stepCells x).toArray hb.size (show 8 ≤ maxLen by unfold maxLen; decide)
      have hb5 : Below wr.heap.size wr (wr.alloc (.cells (stepCells x).toArray 79)) := (Below.refl _ _).alloc (Nat.le_refl _) _
      have hB5 := hb.trans (hb5.mono hb.size)
      have hok5 := hok.below (hb5.mono hb.size)
      have t5 := hide_ (Bytes_any (W := wr.alloc (.cells (stepCells x).toArray 79)) hO5 HSG.out.pow)
      have HO5 := hide_ hO5
      have HB5 := hide_ hB5
      have HOK := hide_ hok5
      have HL := hide_ (show xs.length = N ∧ bytesOk xs from ⟨hxl, hxo⟩)
      unfold stepCells at t5 HO5 HB5
      clear hc hj e0 eN hO5 hB5 hb5 hok5 hok hx hO hb hxl hxo
      go_wp2_with fail
      refine t5.out.mono ?_
      rintro e w6 ⟨o6, co6, rfl, hown6, hb6⟩
      have hO6 : Owns w6 w.heap.size (memRows g d N c2 lg tv ts xs ++ [stepBox wr.heap.size x, outR o6 N co6 xs]) := HO5.out.push hb6 (r := outR o6 N co6 xs) hown6 HB5.out.size
      have hB6 : Below w.heap.size w w6 := HB5.out.trans (hb6.mono HB5.out.size)
      have t6 := hide_ (Log_any true hO6 HSG.out.pow)
      have HB6 := hide_ hB6
      have HOK6 := hide_ (HOK.out.below (hb6.mono HB5.out.size))
      clear hO6 hB6 hown6 hb6 t5 HO5 HB5 HOK
      go_wp2_with fail
      refine t6.out.mono ?_
      rintro e w7 ⟨rfl, hO7, hb7⟩
      have hL7 : SegL w7 w.heap.size g d N c2 xs [] [stepBox wr.heap.size x, outR o6 N co6 xs] := ⟨⟨_, hO7⟩, Nat.le_trans HB6.out.size hb7.size, HSG.out, HL.out.1, HL.out.2⟩
      have hok7 := HOK6.out.below hb7
      have k0 : w7.cell? ⟨wr.heap.size, 0, none⟩ = some (.int .u8 x.d) := hO7.cell (i := 3) rfl rfl
      have k1 : w7.cell? ⟨wr.heap.size, 1, none⟩ = some (.int .u8 x.a) := hO7.cell (i := 3) rfl rfl
      have k2 : w7.cell? ⟨wr.heap.size, 2, none⟩ = some (.int .u8 x.b) := hO7.cell (i := 3) rfl rfl
      have k3 : w7.cell? ⟨wr.heap.size, 3, none⟩ = some (.int .u32 x.p) := hO7.cell (i := 3) rfl rfl
      have k4 : w7.cell? ⟨wr.heap.size, 4, none⟩ = some (.int .u32 x.v) := hO7.cell (i := 3) rfl rfl
      have k5 : w7.cell? ⟨wr.heap.size, 5, none⟩ = some (.int .i64 x.n) := hO7.cell (i := 3) rfl rfl
      have k6 : w7.cell? ⟨wr.heap.size, 6, none⟩ = some (.bool x.on) := hO7.cell (i := 3) rfl rfl
      have k7 : w7.cell? ⟨wr.heap.size, 7, none⟩ = some (.slice x.A x.l x.c) := hO7.cell (i := 3) rfl rfl
      have kb : wr.heap.size < w7.heap.size := (hO7.base (i := 3) rfl).2
      have t7 := hide_ (tried_any w.heap.size x hL7 hok7 (Nat.le_refl _))
      have HB7 := hide_ (HB6.out.trans hb7)
      unfold stepCells at t7
      clear hO7 hb7 hL7 hok7 HOK6 t6 HB6 q0 q1 q2 q3 q4 q5 q6 q7
      go_wp2_with fail
      refine t7.out.mono ?_
      rintro e w8 ⟨rfl, xs', ts', hL8, hG, hb8⟩
      obtain ⟨⟨tv8, hO8⟩, _, _, hxl', hxo'⟩ := hL8
      have t8 := hide_ (Touched_own hO8 HSG.out.pow)
      have HL' := hide_ (show xs'.length = N ∧ bytesOk xs' from ⟨hxl', hxo'⟩)
      have HG := hide_ hG
      have HB8 := hide_ (HB7.out.trans hb8)
      clear hO8 hxl' hxo' hG hb8 t7 HB7 k0 k1 k2 k3 k4 k5 k6 k7 kb
      go_wp2_with fail
      refine t8.out.mono ?_
      rintro e w9 ⟨A9, ct9, rfl, hO9, hb9⟩
      have t9 := hide_ (Bytes_any hO9 HSG.out.pow)
      have HO9 := hide_ hO9
      have HB9 := hide_ (HB8.out.trans hb9)
      clear hO9 hb9 t8 HB8
      go_wp2_with fail
      refine t9.out.mono ?_
      rintro e w10 ⟨o10, co10, rfl, hown10, hb10⟩
      have hO10 : Owns w10 w.heap.size (memRows g d N c2 true (.slice none 0 0) [] xs' ++ [touchR A9 ts'.length ct9 ts', stepBox wr.heap.size x, outR o6 N co6 (layK xs xs' ts' 0), outR o10 N co10 xs']) := HO9.out.push hb10 (r := outR o10 N co10 xs') hown10 HB9.out.size
      have hB10 : Below w.heap.size w w10 := HB9.out.trans (hb10.mono HB9.out.size)
      obtain ⟨T, hT⟩ : ∃ T, T = ts'.length := ⟨_, rfl⟩
      rw [← hT]
      have hTb : T ≤ 65536 := by rw [hT]; exact HG.out.few
      have HO10 := hide_ hO10
      have HB10 := hide_ hB10
      have HT := hide_ hT
      clear hown10 hb10 hO10 hB10 hT t9 HO9 HB9
      clear hbk
      generalize wr.heap.size = qb at HO10 ⊢
      go_wp2
      go_loopw [57] (fun i wr => ∃ k : Nat, k ≤ T ∧ i = .int .i64 k ∧ Owns wr w.heap.size (memRows g d N c2 true (.slice none 0 0) [] xs' ++ [touchR A9 ts'.length ct9 ts', stepBox qb x, outR o6 N co6 (layK xs xs' ts' k), outR o10 N co10 xs']) ∧ Below w.heap.size w wr) (fun i _ => T - (intOf i).toNat)
      case atStart => exact ⟨0, Nat.zero_le _, rfl, HO10.out, HB10.out⟩
      case round =>
        obtain ⟨j, hj, rfl, hO, hb⟩ := hrel
        by_cases hlt2 : j < T
        · obtain ⟨t9, ct9', ht9⟩ := ownsRow_some (hO.at_ (i := 3) rfl) (show 0 < ts'.length by rw [← HT.out]; omega)
          injection ht9 with ht9 _ _
          subst ht9
          obtain ⟨⟨p, wrt⟩, hp⟩ : ∃ t, ts'[j]? = some t := ⟨_, List.getElem?_eq_getElem (by rw [← HT.out]; exact hlt2)⟩
          obtain ⟨p0, p1⟩ := HG.out.places _ (List.mem_of_getElem? hp)
          simp only at p0 p1
          obtain ⟨P, rfl⟩ := Int.eq_ofNat_of_zero_le p0
          have hP : P < N := by omega
          have hN2 := HSG.out.bd.2
          obtain ⟨g0, g1⟩ := touch_get ts' hp
          have c0 : wr.cell? ⟨t9, j * 2, none⟩ = some (.int .u32 P) := hO.cell (i := 3) rfl g0
          have c1 : wr.cell? ⟨t9, j * 2 + 1, none⟩ = some (.bool wrt) := hO.cell (i := 3) rfl g1
          have cb : t9 < wr.heap.size := (hO.base (i := 3) rfl).2
          have d0 : decide (N ≤ P) = false := by simp; omega
          have HP := hide_ hp
          have HO := hide_ hO
          have HB := hide_ hb
          clear hO hb hp g0 g1
          have hlay : layK xs xs' ts' (j + 1) = if wrt then (layK xs xs' ts' j).set P (gt xs' P) else layK xs xs' ts' j := by
            rw [layK, HP.out]
            rfl
          have HLAY := hide_ hlay
          clear hlay
          cases wrt with
          | false =>
            go_wp2
            have hO11 := HO.out.alloc (.cells #[.int .u32 P, .bool false] 73)
            have hb11 := HB.out.alloc HB.out.size (.cells #[.int .u32 P, .bool false] 73)
            have HO11 := hide_ hO11
            have HB11 := hide_ hb11
            clear hO11 hb11
            go_roundw
            case rel => exact ⟨j + 1, by omega, by go_num, by rw [HLAY.out]; exact HO11.out, HB11.out⟩
            case measure => simp [intOf]; omega
          | true =>
            go_wp2
            have hO11 := HO.out.alloc (.cells #[.int .u32 P, .bool true] 73)
            have hb11 := HB.out.alloc HB.out.size (.cells #[.int .u32 P, .bool true] 73)
            have kk := Blk.new wr 73 #[.int .u32 P, .bool true]
            have l11 : wr.heap.size < (wr.alloc (.cells #[.int .u32 P, .bool true] 73)).heap.size := kk.lt
            have a0 : (wr.alloc (.cells #[.int .u32 P, .bool true] 73)).cell? ⟨wr.heap.size, 0, none⟩ = some (.int .u32 P) := kk.cell 0
            clear kk c0 c1 cb
            generalize (wr.alloc (.cells #[.int .u32 P, .bool true] 73)) = w11 at hO11 hb11 a0 l11 ⊢
            have a1 : w11.cell? ⟨o10, P, none⟩ = some (.int .u8 (gt xs' P)) := by
              rw [gt_nat]
              exact hO11.cell (i := 6) rfl (u8s_get (by rw [HL'.out.1]; exact hP))
            have a2 : w11.cell? ⟨o6, P, none⟩ = some (.int .u8 ((layK xs xs' ts' j)[P]?.getD 0)) := hO11.cell (i := 5) rfl (u8s_get (by rw [layK_len, HL.out.1]; exact hP))
            have l10 : o10 < w11.heap.size := (hO11.base (i := 6) rfl).2
            have l6 : o6 < w11.heap.size := (hO11.base (i := 5) rfl).2
            have f6 := hO11.frozen (i := 5) rfl P
            have y0 : (0 : Int) ≤ (P : Int) := by omega
            have y1 : (P : Int) < (N : Int) := by omega
            go_region
            have hst := (hO11.store (i := 5) (e := 5) (size := 1) (n := N) (g := o6) (c := co6) (j := P) (xs := u8s (layK xs xs' ts' j)) rfl (by simp [layK_len, HL.out.1]; exact hP) (.int .u8 (gt xs' P))).drew
            have hb12 := (hb11.setCell (p := ⟨o6, P, none⟩) (hO11.base (i := 5) rfl).1 (.int .u8 (gt xs' P))).drew
            rw [show (u8s (layK xs xs' ts' j)).set P (.int .u8 (gt xs' P)) = u8s (layK xs xs' ts' (j + 1)) by rw [HLAY.out]; exact (List.map_set).symm] at hst
            have HST := hide_ hst
            have HB12 := hide_ hb12
            clear hst hb12 hO11 hb11 a0 a1 a2 f6
            go_wp2
            go_roundw
            case rel => exact ⟨j + 1, by omega, by go_num, HST.out, HB12.out⟩
            case measure => simp [intOf]; omega
        · obtain rfl : j = T := by omega
          rw [HT.out, layK_end HL.out.1 HL'.out.1 HG.out] at hO
          have N1 := HSG.out.bd.2
          have r1 : Reads wr wr.heap.size 1 (some ⟨o6, 0, none⟩) N (u8s xs') := Reads.of_own (hO.at_ (i := 5) rfl)
          have r2 : Reads wr wr.heap.size 1 (some ⟨o10, 0, none⟩) N (u8s xs') := Reads.of_own (hO.at_ (i := 6) rfl)
          have s12 := SameBytes_any (some ⟨o6, 0, none⟩) (some ⟨o10, 0, none⟩) N co6 N co10 xs' xs' wr.heap.size wr r1 r2 (by unfold maxLen; omega) (by unfold maxLen; omega)
          rw [decide_eq_true rfl] at s12
          have S12 := hide_ s12
          have HO := hide_ hO
          have HB := hide_ hb
          clear s12 r1 r2 hO hb N1 hTb
          go_wp2_with fail
          refine S12.out.mono ?_
          rintro e w' ⟨rfl, nq, rfl⟩
          have hO13 := (HO.out.drewN nq).sub (qs := memRows g d N c2 true (.slice none 0 0) [] xs') (List.sublist_append_left _ _)
          have HO13 := hide_ hO13
          have HB13 := hide_ (below_draws2 HB.out nq)
          clear hO13
          go_wp2
          go_roundw
          case rel => exact ⟨k + 1, by omega, by go_num, true, .slice none 0 0, [], xs', HO13.out, HL'.out.1, HL'.out.2, HB13.out⟩
          case measure => simp [intOf]; omega
    · have HB := hide_ hb
      clear hO hb hxl hxo
      go_wp2
      go_ret
      exact ⟨rfl, HB.out⟩
set_option maxRecDepth 100000 in
theorem MemWithin_raw {H : Type} {enc : TypeId × Value → H} {base : Nat} (bits : Int) (A : Option Addr) (n c : Nat) (zs : List Int) (v : Value) (w : World) (hb : (Lit.int .u8 bits).wf = true) (hr : Reads w w.heap.size 1 A n (u8s zs)) (hz : ∀ x ∈ zs, (Lit.int .u8 x).wf = true) (hnc : n ≤ c) (hcb : c * 1 ≤ 140737488351232)
    (hv : Value.okWide Try.prog w .any base 77 v) (h : Seen enc Try.prog w true 77 v.cells.toList) :
    Calls Try.prog 12 #[.int .u8 bits, .slice A n c, v] w fun e w' => e = .returned (.bool true) ∧ Below w.heap.size w w' := by
  obtain ⟨A2, n2, c2, rfl⟩ := Go.WideShapes.okWide_slice Try.underlying77 hv
  obtain ⟨A3, n3, c3, f, he, h1, h2, h3⟩ := seen_script h
  simp [Value.cells] at he
  obtain ⟨rfl, rfl, rfl⟩ := he
  obtain ⟨b0, b1⟩ := wf_u8 hb
  clear hv h
  exact MemWithin_walk bits A n c zs A2 n2 c2 f w b0 b1 hr (fun x hx => wf_u8 (hz x hx)) (by omega) h3 (by omega)
end Go.Proofs.Ytgppbdcnpailaaa
