/-
  The walks of mem's read and write, and of Read and Write.
-/
import Derived.Test.YtcfpclhoockcfaaM06
import Derived.Test.YtcfpclhoockcfaaM08
import Derived.Laws.BytesArg
namespace Go.Proofs.Ytcfpclhoockcfaa
open Go.RowKit

/-! ### the plain law -/
theorem IsPow.dvd {N : Nat} (h : IsPow N) : (N : Int) ∣ 4294967296 := by
  obtain ⟨b, hb, rfl⟩ := h
  exact ⟨((2 ^ (32 - b) : Nat) : Int), by rw [← Int.natCast_mul, ← Nat.pow_add, show b + (32 - b) = 32 by omega]; rfl⟩
theorem plc_mod {N : Nat} (h : IsPow N) (a : Int) (k : Nat) : plc N a k = (a + k) % (N : Int) := by
  unfold plc
  exact Int.emod_emod_of_dvd _ h.dvd
theorem plc_add {N : Nat} (h : IsPow N) (a : Int) (k : Nat) (hk : a % (N : Int) + k < N) : plc N a k = a % (N : Int) + k := by
  rw [plc_mod h, Int.add_emod, Int.emod_eq_of_lt (a := (k : Int)) (by omega) (by have := Int.emod_nonneg a (show (N : Int) ≠ 0 by have := h.bd; omega); omega)]
  exact Int.emod_eq_of_lt (by have := Int.emod_nonneg a (show (N : Int) ≠ 0 by have := h.bd; omega); omega) hk
theorem splice_get {α : Type} (xs cs : List α) (p j : Nat) (h : p + cs.length ≤ xs.length) : (splice xs p cs)[j]? = if p ≤ j ∧ j < p + cs.length then cs[j - p]? else xs[j]? := by
  unfold splice
  have hA : (xs.take p).length = p := by rw [List.length_take]; omega
  by_cases h1 : j < p
  · rw [if_neg (by omega), List.getElem?_append_left (by omega), List.getElem?_take, if_pos h1]
  · rw [List.getElem?_append_right (by omega), hA]
    by_cases h2 : j < p + cs.length
    · rw [if_pos ⟨by omega, h2⟩, List.getElem?_append_left (by omega)]
    · rw [if_neg (by omega), List.getElem?_append_right (by omega), List.getElem?_drop]
      congr 1
      omega
theorem puts_splice {N : Nat} (h : IsPow N) {a : Int} {ys xs : List Int} (hx : xs.length = N) (p : Nat) (hp : a % (N : Int) = p) : ∀ k, k ≤ ys.length → p + k ≤ N → puts N a ys xs k = splice xs p (ys.take k) := by
  intro k
  induction k with
  | zero => intro _ _; simp [puts, splice]
  | succ k ih =>
    intro hk hpk
    rw [puts, ih (by omega) (by omega), plc_add h a k (by rw [hp]; omega), hp, show ((p : Int) + (k : Int)).toNat = p + k by omega]
    apply List.ext_getElem?
    intro j
    have l1 : (ys.take k).length = k := by rw [List.length_take]; omega
    have l2 : (ys.take (k + 1)).length = k + 1 := by rw [List.length_take]; omega
    rw [List.getElem?_set, length_splice _ _ _ (by omega), splice_get _ _ _ _ (by omega), splice_get _ _ _ _ (by omega), l1, l2]
    by_cases e : p + k = j
    · subst e
      rw [if_pos rfl, if_pos (by omega), if_pos (by omega), List.getElem?_take, if_pos (by omega), show p + k - p = k by omega, List.getElem?_eq_getElem (by omega)]
      rfl
    · rw [if_neg e]
      by_cases c1 : p ≤ j ∧ j < p + k
      · rw [if_pos c1, if_pos (by omega), List.getElem?_take, List.getElem?_take, if_pos (by omega), if_pos (by omega)]
      · rw [if_neg c1, if_neg (by omega)]
/-- the n bytes from an address on -/
def readN (N : Nat) (a : Int) (xs : List Int) (n : Nat) : List Int := (List.range n).map fun k => gt xs (plc N a k)
theorem readN_len (N : Nat) (a : Int) (xs : List Int) (n : Nat) : (readN N a xs n).length = n := by simp [readN]
theorem readN_ok {N : Nat} {a : Int} {xs : List Int} (h : bytesOk xs) (n : Nat) : bytesOk (readN N a xs n) := by
  intro x hx
  obtain ⟨k, _, rfl⟩ := List.mem_map.1 hx
  exact gt_bd h _
theorem readN_cut {N : Nat} (h : IsPow N) {a : Int} {xs : List Int} (hx : xs.length = N) (p n : Nat) (hp : a % (N : Int) = p) (hn : p + n ≤ N) : (xs.drop p).take n = readN N a xs n := by
  apply List.ext_getElem?
  intro j
  rw [List.getElem?_take, List.getElem?_drop]
  unfold readN
  rw [List.getElem?_map]
  by_cases hj : j < n
  · rw [if_pos hj, List.getElem?_range hj, Option.map_some, plc_add h a j (by rw [hp]; omega), hp, show (p : Int) + (j : Int) = ((p + j : Nat) : Int) by omega, gt_nat, List.getElem?_eq_getElem (by omega)]
    rfl
  · rw [if_neg hj, List.getElem?_eq_none (by simp; omega)]
    rfl

/-! ### write -/
section
variable {W : World} {B g d N c : Nat} {logs : Bool} {tv : Value} {ts : List (Int × Bool)} {xs : List Int} {ex : List Ro}
theorem u8s_splice (xs cs : List Int) (p : Nat) : u8s (splice xs p cs) = splice (u8s xs) p (u8s cs) := by simp [splice, u8s]
theorem u8_one : (Try.prog.info? 5).map (·.size) = some 1 := by kernel_rfl
theorem one_u8s (xs : List Int) : ∀ u ∈ u8s xs, u.oneCell' = true := by
  intro u hu
  obtain ⟨x, _, rfl⟩ := List.mem_map.1 hu
  rfl
set_option maxRecDepth 100000 in
set_option maxHeartbeats 1000000 in
theorem write_any (a : Int) (A : Option Addr) (n cb : Nat) (bs : List Int) (hO : Owns W B (memRows g d N c logs tv ts xs ++ ex)) (hB : B ≤ W.heap.size) (hN : IsPow N) (hx : xs.length = N) (h0 : 0 ≤ a) (h1 : a ≤ 4294967295) (hbl : bs.length = n) (hn : n ≤ 4096)
    (hR : ∀ W1 tv ts xs ex', Owns W1 B (memRows g d N c logs tv ts xs ++ (ex' ++ ex)) → Below B W W1 → Reads W1 W1.heap.size 1 A n (u8s bs)) :
    Calls Try.prog 65 #[.pointer (some ⟨g, 0, none⟩), .int .u32 a, .slice A n cb] W fun e W' => e = .returned (.tuple #[]) ∧
      ∃ tv', Owns W' B (memRows g d N c logs tv' (notes N logs true a ts n) (puts N a bs xs n) ++ ex) ∧ Below B W W' := by
  have h1b := (hO.box 28 #[.pointer (some ⟨g, 0, none⟩)] hB (show 1 ≤ maxLen by unfold maxLen; decide)).box 23 #[.slice A n cb] (by simp; omega) (show 1 ≤ maxLen by unfold maxLen; decide)
  have h2 : Owns ((W.alloc (.cells #[.pointer (some ⟨g, 0, none⟩)] 28)).alloc (.cells #[.slice A n cb] 23)) B (memRows g d N c logs tv ts xs ++ ([mboxR W.heap.size g, sboxR (W.heap.size + 1) A n cb] ++ ex)) := by
    refine h1b.swap ?_
    simp only [World.size_alloc]
    exact box_perm _ _ _ _
  have hb2 : Below B W ((W.alloc (.cells #[.pointer (some ⟨g, 0, none⟩)] 28)).alloc (.cells #[.slice A n cb] 23)) := ((Below.refl _ _).alloc hB _).alloc (by simp; omega) _
  obtain ⟨W2, hW2⟩ : ∃ W2, W2 = ((W.alloc (.cells #[.pointer (some ⟨g, 0, none⟩)] 28)).alloc (.cells #[.slice A n cb] 23)) := ⟨_, rfl⟩
  have hs2 : B ≤ W2.heap.size := by rw [hW2]; simp; omega
  rw [← hW2] at h2 hb2
  have hpl := hide_ (plain_any g d N c n logs a W2 (h2.cell (i := 0) rfl rfl) (h2.cell (i := 0) rfl rfl) hN h0 h1 (by omega))
  have HEach := hide_ (fun nq : Nat => each_write g d N c n (W.heap.size + 1) W.heap.size logs true a (fun k => puts N a bs xs k) (fun _ => [mboxR W.heap.size g, sboxR (W.heap.size + 1) A n cb] ++ ex) ts tv B (W2.drewN nq) (h2.drewN nq) hs2 hN (by omega)
    (fun k hk W1 tv1 ts1 hO1 hb1 => write1_any k n cb A bs (plc N a k) hO1 (hR W1 _ _ _ _ hO1 (hb2.trans ((below_draws2 (Below.refl _ _) nq).trans hb1))) hk (by rw [puts_len, hx]) (plc_bd hN a k).1 (plc_bd hN a k).2 (fun y => by
      have hst := hO1.store (i := 1) (e := 5) (size := 1) (n := N) (g := d) (c := c) (j := (plc N a k).toNat) (xs := u8s (puts N a bs xs k)) rfl (by have := plc_bd hN a k; simp [puts_len, hx]; omega) (.int .u8 y)
      rw [show (u8s (puts N a bs xs k)).set (plc N a k).toNat (.int .u8 y) = u8s ((puts N a bs xs k).set (plc N a k).toNat y) from (List.map_set).symm] at hst
      have hbw := (hb2.trans ((below_draws2 (Below.refl _ _) nq).trans hb1)).setCell (p := ⟨d, (plc N a k).toNat, none⟩) (hO1.base (i := 1) rfl).1 (.int .u8 y)
      have := hR _ _ _ _ _ hst hbw
      have e : (W1.setCell ⟨d, (plc N a k).toNat, none⟩ (.int .u8 y)).heap.size = W1.heap.size := by simp [World.setCell]
      rw [e] at this
      exact this)))
  have HB2 := hide_ hb2
  have HO2 := hide_ h2
  by_cases hp : (!logs && decide (a % (N : Int) + n ≤ (N : Int))) = true
  · rw [hp] at hpl
    simp only [Bool.and_eq_true, Bool.not_eq_true', decide_eq_true_eq] at hp
    obtain ⟨rfl, hfit⟩ := hp
    obtain ⟨p, hpp⟩ : ∃ p : Nat, a % (N : Int) = (p : Int) := Int.eq_ofNat_of_zero_le (Int.emod_nonneg _ (by have := hN.bd; omega))
    rw [hpp] at hfit
    have hpN : p < N := by have := Int.emod_lt_of_pos a (show (0 : Int) < N by have := hN.bd; omega); omega
    have HP := hide_ (fun (W' : World) (h : W'.cell? ⟨g, 0, none⟩ = some (.slice (some ⟨d, 0, none⟩) N c)) => place_any g d N c a W' h hN h0 h1)
    rw [hpp] at HP
    have HPS := hide_ (show puts N a bs xs n = splice xs p bs by rw [puts_splice hN hx p hpp n (by omega) (by omega), List.take_of_length_le (by omega)])
    have HNT := hide_ (show notes N false true a ts n = ts from notes_off _ _ _ _ _)
    obtain ⟨_, cap', hcap, hNc, _⟩ := ownsRow_slice (h2.at_ (i := 1) rfl)
    have hcap2 : Value.slice (some ⟨d, 0, none⟩) N c = .slice _ N cap' := hcap
    injection hcap2 with _ _ hcap3
    subst hcap3
    have hcp : ¬ c = p := by have : N ≤ c := hNc; omega
    have hd0 : (0 : Int) ≤ (p : Int) := by omega
    have hd1 : (p : Int) ≤ (N : Int) := by omega
    have HALL := hide_ (fun nq : Nat => (⟨h2.drewN nq, below_draws2 hb2 nq, (hR W2 _ _ _ _ h2 hb2).drewN nq⟩ : Owns (W2.drewN nq) B (memRows g d N c false tv ts xs ++ ([mboxR W.heap.size g, sboxR (W.heap.size + 1) A n cb] ++ ex)) ∧ Below B W (W2.drewN nq) ∧ Reads (W2.drewN nq) W2.heap.size 1 A n (u8s bs)))
    clear HEach hR h2 hb2 hO h1b HO2 HB2 hs2
    subst hW2
    go_enter Try.func65, Try.ntmps65
    go_wp2_with (go_at_call 79; refine hpl.out.mono ?_; rintro e w' ⟨rfl, nq, rfl⟩)
    obtain ⟨h3, hb3, hr3⟩ := HALL.out nq
    generalize (World.drewN ((W.alloc (.cells #[.pointer (some ⟨g, 0, none⟩)] 28)).alloc (.cells #[.slice A n cb] 23)) nq) = W3 at h3 hb3 hr3 ⊢
    have c0 : W3.cell? ⟨g, 0, none⟩ = some (.slice (some ⟨d, 0, none⟩) N c) := h3.cell (i := 0) rfl rfl
    have c1 : W3.cell? ⟨W.heap.size, 0, none⟩ = some (.pointer (some ⟨g, 0, none⟩)) := h3.cell (i := 3) rfl rfl
    have c2 : W3.cell? ⟨W.heap.size + 1, 0, none⟩ = some (.slice A n cb) := h3.cell (i := 4) rfl rfl
    have hus : (u8s bs).length = n := by simp [hbl]
    have HSRC := hide_ (show 0 < (u8s bs).length → ∃ ad, A = some ad ∧ ∀ j v, (u8s bs)[j]? = some v → W3.drew.cell? (ad.add j) = some v from fun h => by
      obtain ⟨ad, e, _, hc⟩ := hr3.2 (by omega)
      exact ⟨ad, e, hc⟩)
    have HUS := hide_ hus
    have H3 := hide_ h3
    have HB3 := hide_ hb3
    clear h3 hb3 hr3 hus
    go_region_held3 (fun W' => W'.cell? ⟨g, 0, none⟩ = some (.slice (some ⟨d, 0, none⟩) N c) ∧ W'.cell? ⟨W.heap.size, 0, none⟩ = some (.pointer (some ⟨g, 0, none⟩)) ∧ W'.cell? ⟨W.heap.size + 1, 0, none⟩ = some (.slice A n cb))
      (first | exact ⟨c0, c1, c2⟩ | exact ⟨hO9.cell (i := 0) rfl rfl, hO9.cell (i := 3) rfl rfl, hO9.cell (i := 4) rfl rfl⟩)
      ((first
        | (go_at_call 80; go_split_ands; refine (HP.out _ (by assumption)).mono ?_; rintro e w' ⟨rfl, rfl⟩)
        | (refine step_copy_owns (by rfl) _ _ _ _ (by rfl) 5 Try.underlying23 u8_one d p (N - p) (c - p) n cb A (by rfl) (by rfl) B _ 1 5 N c (u8s xs) (u8s bs) rfl H3.out.drew (by rw [HUS.out]; show n = min n (N - p); omega) HSRC.out (by rw [HUS.out]; omega) (one_u8s bs) ?_; intro w9 hO9 hb9 hs9)))
    have hO10 : Owns w9 B (memRows g d N c false tv ts (puts N a bs xs n) ++ ([mboxR W.heap.size g, sboxR (W.heap.size + 1) A n cb] ++ ex)) := by
      rw [HPS.out]
      unfold memRows
      rw [u8s_splice]
      exact hO9
    have HO10 := hide_ hO10
    have HB10 := hide_ (HB3.out.drew.trans hb9)
    clear hO9 hO10 hb9
    go_wp2
    refine bodyPost_ret (results_none rfl _ _ _) rfl ?_
    exact ⟨rfl, tv, by rw [HNT.out]; exact HO10.out.sub (box_sub _ _ _ _), HB10.out⟩
  · have hp' : (!logs && decide (a % (N : Int) + n ≤ (N : Int))) = false := by simpa using hp
    rw [hp'] at hpl
    clear hR h2 hb2 hO h1b HO2 hs2 hp hp'
    subst hW2
    go_enter Try.func65, Try.ntmps65
    go_wp2_with (first
      | (go_at_call 79; refine hpl.out.mono ?_; rintro e w' ⟨rfl, nq, rfl⟩)
      | (go_at_call 77; refine (HEach.out _).mono ?_; rintro e w4 ⟨rfl, tv4, hO4, hb4⟩))
    go_end0
    exact ⟨rfl, tv4, hO4.sub (box_sub _ _ _ _), (below_draws2 HB2.out nq).trans hb4⟩
/-! ### read -/
def readPart (N : Nat) (a : Int) (xs : List Int) (n k : Nat) : List Int := (List.range n).map fun j => if j < k then gt xs (plc N a j) else 0
theorem readPart_len (N : Nat) (a : Int) (xs : List Int) (n k : Nat) : (readPart N a xs n k).length = n := by simp [readPart]
theorem readPart_all (N : Nat) (a : Int) (xs : List Int) (n : Nat) : readPart N a xs n n = readN N a xs n := List.map_congr_left (fun _ hj => if_pos (List.mem_range.1 hj))
theorem readPart_set (N : Nat) (a : Int) (xs : List Int) (n k : Nat) (hk : k < n) : (readPart N a xs n k).set k (gt xs (plc N a k)) = readPart N a xs n (k + 1) := by
  apply List.ext_getElem?
  intro j
  rw [List.getElem?_set, readPart_len]
  unfold readPart
  rw [List.getElem?_map, List.getElem?_map]
  by_cases hj : j < n
  · rw [List.getElem?_range hj, Option.map_some, Option.map_some]
    by_cases e : k = j
    · subst e
      rw [if_pos rfl, if_pos hk, if_pos (by omega)]
    · rw [if_neg e]
      by_cases c1 : j < k
      · rw [if_pos c1, if_pos (by omega)]
      · rw [if_neg c1, if_neg (by omega)]
  · rw [List.getElem?_eq_none (l := List.range n) (by simpa using hj), if_neg (by omega)]
    rfl
theorem read_perm (a b o : Ro) (l ex : List Ro) : ((l ++ ex) ++ [a] ++ [o] ++ [b]).Perm (l ++ ([a, b, o] ++ ex)) := by
  rw [List.append_assoc, List.append_assoc, List.append_assoc]
  refine (List.perm_append_left_iff l).2 ?_
  exact List.perm_append_comm.trans (List.Perm.append_right _ (List.Perm.cons _ (List.Perm.swap _ _ _)))
theorem read_sub (a b o : Ro) (l ex : List Ro) : (l ++ (o :: ex)).Sublist (l ++ ([a, b, o] ++ ex)) := (List.Sublist.refl l).append (.cons _ (.cons _ (.refl _)))
end
end Go.Proofs.Ytcfpclhoockcfaa
/-
  The contracts of Read and Write of a segment whose log is off; what is read where something was laid down: the plain law.
-/
namespace Go.Proofs.Ytcfpclhoockcfaa
set_option maxRecDepth 100000
open Go.RowKit

/-! ### places -/
theorem plc_inj {N : Nat} (h : IsPow N) {a : Int} {i j : Nat} (hi : i < N) (hj : j < N) (e : plc N a i = plc N a j) : i = j := by
  have hb := h.bd
  rw [plc_mod h, plc_mod h] at e
  have h1 := Int.emod_emod_of_dvd
  have h2 : ((a + i) - (a + j)) % (N : Int) = 0 := Int.emod_eq_emod_iff_emod_sub_eq_zero.1 e
  obtain ⟨q, hq⟩ := Int.dvd_of_emod_eq_zero h2
  have h3 : (i : Int) - j = N * q := by omega
  rcases Int.lt_trichotomy q 0 with hq0 | hq0 | hq0
  · have : (N : Int) * q ≤ N * (-1) := Int.mul_le_mul_of_nonneg_left (by omega) (by omega)
    omega
  · subst hq0
    omega
  · have : (N : Int) * 1 ≤ N * q := Int.mul_le_mul_of_nonneg_left (by omega) (by omega)
    omega
theorem plc_shift {N : Nat} (h : IsPow N) (a : Int) (m k : Nat) : plc N ((a + m) % 4294967296) k = plc N a (m + k) := by
  rw [plc_mod h, plc_mod h, Int.add_emod, Int.emod_emod_of_dvd _ h.dvd, ← Int.add_emod]
  congr 1
  omega
theorem plc_far {N : Nat} (h : IsPow N) (a f : Int) (k : Nat) : plc N ((a + f * N % 4294967296) % 4294967296) k = plc N a k := by
  rw [plc_mod h, plc_mod h, Int.add_emod, Int.emod_emod_of_dvd _ h.dvd, ← Int.add_emod, show a + f * N % 4294967296 + (k : Int) = (a + k) + f * N % 4294967296 by omega, Int.add_emod, Int.emod_emod_of_dvd _ h.dvd, Int.mul_emod_left, Int.add_zero, Int.emod_emod]
theorem gt_set {l : List Int} {p q : Int} (y : Int) (hp : 0 ≤ p) (hpl : p < l.length) (hq : 0 ≤ q) : gt (l.set p.toNat y) q = if p = q then y else gt l q := by
  unfold gt
  rw [List.getElem?_set]
  by_cases e : p = q
  · subst e
    rw [if_pos rfl, if_pos rfl, if_pos (by omega)]
    rfl
  · rw [if_neg (by omega), if_neg e]
theorem gt_puts {N : Nat} (h : IsPow N) {a : Int} {ys xs : List Int} (hx : xs.length = N) : ∀ n, n ≤ N → ∀ j, j < N → gt (puts N a ys xs n) (plc N a j) = if j < n then ys[j]?.getD 0 else gt xs (plc N a j) := by
  intro n
  induction n with
  | zero => intro _ j _; rw [if_neg (by omega)]; rfl
  | succ n ih =>
    intro hn j hj
    have hb := plc_bd h a n
    rw [puts, gt_set _ hb.1 (by rw [puts_len, hx]; exact hb.2) (plc_bd h a j).1, ih (by omega) j hj]
    by_cases e : plc N a n = plc N a j
    · have := plc_inj h (by omega) hj e
      subst this
      rw [if_pos rfl, if_pos (by omega)]
    · rw [if_neg e]
      have hne : n ≠ j := fun h => e (by rw [h])
      by_cases c : j < n
      · rw [if_pos c, if_pos (by omega)]
      · rw [if_neg c, if_neg (by omega)]
theorem readN_puts {N : Nat} (h : IsPow N) {a : Int} {ys xs : List Int} (hx : xs.length = N) (hn : ys.length ≤ N) : readN N a (puts N a ys xs ys.length) ys.length = ys := by
  apply List.ext_getElem?
  intro j
  unfold readN
  rw [List.getElem?_map]
  by_cases hj : j < ys.length
  · rw [List.getElem?_range hj, Option.map_some, gt_puts h hx _ hn j (by omega), if_pos hj, List.getElem?_eq_getElem hj]
    rfl
  · rw [List.getElem?_eq_none (l := List.range _) (by simpa using hj), List.getElem?_eq_none (by omega)]
    rfl
theorem readN_congr {N : Nat} {a b : Int} {xs : List Int} {n : Nat} (h : ∀ k, plc N a k = plc N b k) : readN N a xs n = readN N b xs n := List.map_congr_left (fun k _ => by rw [h k])
theorem wordAt_congr {N : Nat} {a b : Int} {xs : List Int} {n : Nat} (h : ∀ k, plc N a k = plc N b k) : wordAt N a xs n = wordAt N b xs n := by unfold wordAt; rw [h 0, h 1, h 2, h 3]

/-! ### Read and Write -/
section
variable {W : World} {B g d N c : Nat} {xs : List Int} {ex : List Ro}
theorem Write_off (a : Int) (A : Option Addr) (n cb Bz : Nat) (bs : List Int) (h : Seg W B g d N c xs ex) (h0 : 0 ≤ a) (h1 : a ≤ 4294967295) (hn : n ≤ 4096) (hr : Reads W Bz 1 A n (u8s bs)) (hBz : Bz ≤ B) (hok : bytesOk bs) :
    Calls Try.prog 57 #[.pointer (some ⟨g, 0, none⟩), .int .u32 a, .slice A n cb] W fun e W' => e = .returned (.int .i64 0) ∧ Seg W' B g d N c (puts N a bs xs n) ex ∧ Below B W W' := by
  obtain ⟨⟨tv, hO⟩, h2, h3, h4, h5⟩ := h
  have hbl : bs.length = n := by simpa using hr.1
  have hm := hide_ (made_any g d N c W (hO.cell (i := 0) rfl rfl) h3.pow.bd.1)
  have hw := hide_ (write_any (W := W) a A n cb bs hO h2 h3.pow h4 h0 h1 hbl hn (fun W1 _ _ _ _ _ hb => (hr.below (hb.mono hBz)).more (by have := hb.size; omega)))
  have d1 : decide ((4096 : Int) < (n : Int)) = false := by simp; omega
  have H4 := hide_ h4
  have H5 := hide_ h5
  clear hO hr h4 h5
  go_enter Try.func57, Try.ntmps57
  go_wp2_with (first
    | (go_at_call 59; refine hm.out.mono ?_; rintro e w' ⟨rfl, rfl⟩)
    | (go_at_call 65; refine hw.out.mono ?_; rintro e w4 ⟨rfl, tv4, hO4, hb4⟩))
  go_ret
  rw [notes_off] at hO4
  exact ⟨rfl, ⟨⟨tv4, hO4⟩, Nat.le_trans h2 hb4.size, h3, by rw [puts_len, H4.out], puts_ok hok H5.out _⟩, hb4⟩
end
end Go.Proofs.Ytcfpclhoockcfaa
/-
  The walks of bytes.Equal, Same, Clone, Copy.
-/
namespace Go.Proofs.Ytcfpclhoockcfaa
set_option maxRecDepth 100000
open Go.RowKit

theorem strOfNums_inj {xs ys : List Int} (hx : bytesOk xs) (hy : bytesOk ys) : strOfNums xs = strOfNums ys ↔ xs = ys := by
  constructor
  · intro h
    have h1 : xs.map (fun n => UInt8.ofNat n.toNat) = ys.map (fun n => UInt8.ofNat n.toNat) := by rw [← strOfNums_data, ← strOfNums_data, h]
    have hl : xs.length = ys.length := by simpa using congrArg List.length h1
    apply List.ext_getElem hl
    intro i h1' h2'
    have h2 := congrArg (fun l => l[i]?) h1
    simp only [List.getElem?_map, List.getElem?_eq_getElem h1', List.getElem?_eq_getElem h2', Option.map_some, Option.some.injEq] at h2
    obtain ⟨a0, a1⟩ := hx _ (List.getElem_mem h1')
    obtain ⟨b0, b1⟩ := hy _ (List.getElem_mem h2')
    have h3 := congrArg UInt8.toNat h2
    rw [UInt8.toNat_ofNat', UInt8.toNat_ofNat', Nat.mod_eq_of_lt (by omega), Nat.mod_eq_of_lt (by omega)] at h3
    omega
  · rintro rfl
    rfl
section
variable {W : World} {B g d N c g' d' N' c' : Nat} {xs ys : List Int} {ex ex' : List Ro}
theorem Seg.cells (h : Seg W B g d N c xs ex) : W.cell? ⟨g, 0, none⟩ = some (.slice (some ⟨d, 0, none⟩) N c) ∧ ∀ i, i < N → W.cell? ⟨d, 0 + i, none⟩ = some (.int .u8 (xs.getD i 0)) := by
  obtain ⟨⟨tv, hO⟩, _, _, h4, _⟩ := h
  refine ⟨hO.cell (i := 0) rfl rfl, fun i hi => ?_⟩
  rw [Nat.zero_add]
  refine hO.cell (i := 1) rfl ?_
  rw [u8s_get (by omega), List.getD_eq_getElem?_getD]
end
end Go.Proofs.Ytcfpclhoockcfaa
