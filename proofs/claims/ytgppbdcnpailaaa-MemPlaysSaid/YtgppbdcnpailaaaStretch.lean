/-
  The walks of mem's read and write, and of Read and Write.
-/
import Derived.Test.YtgppbdcnpailaaaCopy
import Derived.Test.YtgppbdcnpailaaaOff
namespace Go.Proofs.Ytgppbdcnpailaaa
open Go.RowKit

/-! ### the plain law -/
theorem IsPow.dvd {N : Nat} (h : IsPow N) : (N : Int) ∣ 4294967296 := by
  obtain ⟨b, hb, rfl⟩ := h
  exact ⟨((2 ^ (32 - b) : Nat) : Int), by rw [← Int.natCast_mul, ← Nat.pow_add, show b + (32 - b) = 32 by omega]; rfl⟩
theorem plc_mod {N : Nat} (h : IsPow N) (a : Int) (k : Nat) : plc N a k = (a + k) % (N : Int) := by
  unfold plc
  exact Int.emod_emod_of_dvd _ h.dvd
theorem plc_add {N : Nat} (h : IsPow N) (a : Int) (k : Nat) (hk : a % (N : Int) + k < N) : plc N a k = a % (N : Int) + k := by
  rw [plc_mod h, Int.add_emod, Int.emod_eq_of_lt (a := (k : Int)) (by omega) (by have := Int.emod_nonneg a (show (N : Int) ≠ 0 by have := h.bd; omega); omega)]
  exact Int.emod_eq_of_lt (by have := Int.emod_nonneg a (show (N : Int) ≠ 0 by have := h.bd; omega); omega) hk
theorem splice_get {α : Type} (xs cs : List α) (p j : Nat) (h : p + cs.length ≤ xs.length) : (splice xs p cs)[j]? = if p ≤ j ∧ j < p + cs.length then cs[j - p]? else xs[j]? := by
  unfold splice
  have hA : (xs.take p).length = p := by rw [List.length_take]; omega
  by_cases h1 : j < p
  · rw [if_neg (by omega), List.getElem?_append_left (by omega), List.getElem?_take, if_pos h1]
  · rw [List.getElem?_append_right (by omega), hA]
    by_cases h2 : j < p + cs.length
    · rw [if_pos ⟨by omega, h2⟩, List.getElem?_append_left (by omega)]
    · rw [if_neg (by omega), List.getElem?_append_right (by omega), List.getElem?_drop]
      congr 1
      omega
theorem puts_splice {N : Nat} (h : IsPow N) {a : Int} {ys xs : List Int} (hx : xs.length = N) (p : Nat) (hp : a % (N : Int) = p) : ∀ k, k ≤ ys.length → p + k ≤ N → puts N a ys xs k = splice xs p (ys.take k) := by
  intro k
  induction k with
  | zero => intro _ _; simp [puts, splice]
  | succ k ih =>
    intro hk hpk
    rw [puts, ih (by omega) (by omega), plc_add h a k (by rw [hp]; omega), hp, show ((p : Int) + (k : Int)).toNat = p + k by omega]
    apply List.ext_getElem?
    intro j
    have l1 : (ys.take k).length = k := by rw [List.length_take]; omega
    have l2 : (ys.take (k + 1)).length = k + 1 := by rw [List.length_take]; omega
    rw [List.getElem?_set, length_splice _ _ _ (by omega), splice_get _ _ _ _ (by omega), splice_get _ _ _ _ (by omega), l1, l2]
    by_cases e : p + k = j
    · subst e
      rw [if_pos rfl, if_pos (by omega), if_pos (by omega), List.getElem?_take, if_pos (by omega), show p + k - p = k by omega, List.getElem?_eq_getElem (by omega)]
      rfl
    · rw [if_neg e]
      by_cases c1 : p ≤ j ∧ j < p + k
      · rw [if_pos c1, if_pos (by omega), List.getElem?_take, List.getElem?_take, if_pos (by omega), if_pos (by omega)]
      · rw [if_neg c1, if_neg (by omega)]
/-- the n bytes from an address on -/
def readN (N : Nat) (a : Int) (xs : List Int) (n : Nat) : List Int := (List.range n).map fun k => gt xs (plc N a k)
theorem readN_len (N : Nat) (a : Int) (xs : List Int) (n : Nat) : (readN N a xs n).length = n := by simp [readN]
theorem readN_ok {N : Nat} {a : Int} {xs : List Int} (h : bytesOk xs) (n : Nat) : bytesOk (readN N a xs n) := by
  intro x hx
  obtain ⟨k, _, rfl⟩ := List.mem_map.1 hx
  exact gt_bd h _
theorem readN_cut {N : Nat} (h : IsPow N) {a : Int} {xs : List Int} (hx : xs.length = N) (p n : Nat) (hp : a % (N : Int) = p) (hn : p + n ≤ N) : (xs.drop p).take n = readN N a xs n := by
  apply List.ext_getElem?
  intro j
  rw [List.getElem?_take, List.getElem?_drop]
  unfold readN
  rw [List.getElem?_map]
  by_cases hj : j < n
  · rw [if_pos hj, List.getElem?_range hj, Option.map_some, plc_add h a j (by rw [hp]; omega), hp, show (p : Int) + (j : Int) = ((p + j : Nat) : Int) by omega, gt_nat, List.getElem?_eq_getElem (by omega)]
    rfl
  · rw [if_neg hj, List.getElem?_eq_none (by simp; omega)]
    rfl

/-! ### write -/
section
variable {W : World} {B g d N c : Nat} {logs : Bool} {tv : Value} {ts : List (Int × Bool)} {xs : List Int} {ex : List Ro}
theorem u8s_splice (xs cs : List Int) (p : Nat) : u8s (splice xs p cs) = splice (u8s xs) p (u8s cs) := by simp [splice, u8s]
theorem u8_one : (Try.prog.info? 5).map (·.size) = some 1 := by kernel_rfl
theorem one_u8s (xs : List Int) : ∀ u ∈ u8s xs, u.oneCell' = true := by
  intro u hu
  obtain ⟨x, _, rfl⟩ := List.mem_map.1 hu
  rfl
set_option maxRecDepth 100000 in
set_option maxHeartbeats 1000000 in
theorem write_any (a : Int) (A : Option Addr) (n cb : Nat) (bs : List Int) (hO : Owns W B (memRows g d N c logs tv ts xs ++ ex)) (hB : B ≤ W.heap.size) (hN : IsPow N) (hx : xs.length = N) (h0 : 0 ≤ a) (h1 : a ≤ 4294967295) (hbl : bs.length = n) (hn : n ≤ 4096)
    (hR : ∀ W1 tv ts xs ex', Owns W1 B (memRows g d N c logs tv ts xs ++ (ex' ++ ex)) → Below B W W1 → Reads W1 W1.heap.size 1 A n (u8s bs)) :
    Calls Try.prog 79 #[.pointer (some ⟨g, 0, none⟩), .int .u32 a, .slice A n cb] W fun e W' => e = .returned (.tuple #[]) ∧
      ∃ tv', Owns W' B (memRows g d N c logs tv' (notes N logs true a ts n) (puts N a bs xs n) ++ ex) ∧ Below B W W' := by
  have h1b := (hO.box 48 #[.pointer (some ⟨g, 0, none⟩)] hB (show 1 ≤ maxLen by unfold maxLen; decide)).box 46 #[.slice A n cb] (by simp; omega) (show 1 ≤ maxLen by unfold maxLen; decide)
  have h2 : Owns ((W.alloc (.cells #[.pointer (some ⟨g, 0, none⟩)] 48)).alloc (.cells #[.slice A n cb] 46)) B (memRows g d N c logs tv ts xs ++ ([mboxR W.heap.size g, sboxR (W.heap.size + 1) A n cb] ++ ex)) := by
    refine h1b.swap ?_
    simp only [World.size_alloc]
    exact box_perm _ _ _ _
  have hb2 : Below B W ((W.alloc (.cells #[.pointer (some ⟨g, 0, none⟩)] 48)).alloc (.cells #[.slice A n cb] 46)) := ((Below.refl _ _).alloc hB _).alloc (by simp; omega) _
  obtain ⟨W2, hW2⟩ : ∃ W2, W2 = ((W.alloc (.cells #[.pointer (some ⟨g, 0, none⟩)] 48)).alloc (.cells #[.slice A n cb] 46)) := ⟨_, rfl⟩
  have hs2 : B ≤ W2.heap.size := by rw [hW2]; simp; omega
  rw [← hW2] at h2 hb2
  have hpl := hide_ (plain_any g d N c n logs a W2 (h2.cell (i := 0) rfl rfl) (h2.cell (i := 0) rfl rfl) hN h0 h1 (by omega))
  have HEach := hide_ (fun nq : Nat => each_write g d N c n (W.heap.size + 1) W.heap.size logs true a (fun k => puts N a bs xs k) (fun _ => [mboxR W.heap.size g, sboxR (W.heap.size + 1) A n cb] ++ ex) ts tv B (W2.drewN nq) (h2.drewN nq) hs2 hN (by omega)
    (fun k hk W1 tv1 ts1 hO1 hb1 => write1_any k n cb A bs (plc N a k) hO1 (hR W1 _ _ _ _ hO1 (hb2.trans ((below_draws2 (Below.refl _ _) nq).trans hb1))) hk (by rw [puts_len, hx]) (plc_bd hN a k).1 (plc_bd hN a k).2 (fun y => by
      have hst := hO1.store (i := 1) (e := 5) (size := 1) (n := N) (g := d) (c := c) (j := (plc N a k).toNat) (xs := u8s (puts N a bs xs k)) rfl (by have := plc_bd hN a k; simp [puts_len, hx]; omega) (.int .u8 y)
      rw [show (u8s (puts N a bs xs k)).set (plc N a k).toNat (.int .u8 y) = u8s ((puts N a bs xs k).set (plc N a k).toNat y) from (List.map_set).symm] at hst
      have hbw := (hb2.trans ((below_draws2 (Below.refl _ _) nq).trans hb1)).setCell (p := ⟨d, (plc N a k).toNat, none⟩) (hO1.base (i := 1) rfl).1 (.int .u8 y)
      have := hR _ _ _ _ _ hst hbw
      have e : (W1.setCell ⟨d, (plc N a k).toNat, none⟩ (.int .u8 y)).heap.size = W1.heap.size := by simp [World.setCell]
      rw [e] at this
      exact this)))
  have HB2 := hide_ hb2
  have HO2 := hide_ h2
  by_cases hp : (!logs && decide (a % (N : Int) + n ≤ (N : Int))) = true
  · rw [hp] at hpl
    simp only [Bool.and_eq_true, Bool.not_eq_true', decide_eq_true_eq] at hp
    obtain ⟨rfl, hfit⟩ := hp
    obtain ⟨p, hpp⟩ : ∃ p : Nat, a % (N : Int) = (p : Int) := Int.eq_ofNat_of_zero_le (Int.emod_nonneg _ (by have := hN.bd; omega))
    rw [hpp] at hfit
    have hpN : p < N := by have := Int.emod_lt_of_pos a (show (0 : Int) < N by have := hN.bd; omega); omega
    have HP := hide_ (fun (W' : World) (h : W'.cell? ⟨g, 0, none⟩ = some (.slice (some ⟨d, 0, none⟩) N c)) => place_any g d N c a W' h hN h0 h1)
    rw [hpp] at HP
    have HPS := hide_ (show puts N a bs xs n = splice xs p bs by rw [puts_splice hN hx p hpp n (by omega) (by omega), List.take_of_length_le (by omega)])
    have HNT := hide_ (show notes N false true a ts n = ts from notes_off _ _ _ _ _)
    obtain ⟨_, cap', hcap, hNc, _⟩ := ownsRow_slice (h2.at_ (i := 1) rfl)
    have hcap2 : Value.slice (some ⟨d, 0, none⟩) N c = .slice _ N cap' := hcap
    injection hcap2 with _ _ hcap3
    subst hcap3
    have hcp : ¬ c = p := by have : N ≤ c := hNc; omega
    have hd0 : (0 : Int) ≤ (p : Int) := by omega
    have hd1 : (p : Int) ≤ (N : Int) := by omega
    have HALL := hide_ (fun nq : Nat => (⟨h2.drewN nq, below_draws2 hb2 nq, (hR W2 _ _ _ _ h2 hb2).drewN nq⟩ : Owns (W2.drewN nq) B (memRows g d N c false tv ts xs ++ ([mboxR W.heap.size g, sboxR (W.heap.size + 1) A n cb] ++ ex)) ∧ Below B W (W2.drewN nq) ∧ Reads (W2.drewN nq) W2.heap.size 1 A n (u8s bs)))
    clear HEach hR h2 hb2 hO h1b HO2 HB2 hs2
    subst hW2
    go_enter Try.func79, Try.ntmps79
    go_wp2_with (go_at_call 113; refine hpl.out.mono ?_; rintro e w' ⟨rfl, nq, rfl⟩)
    obtain ⟨h3, hb3, hr3⟩ := HALL.out nq
    generalize (World.drewN ((W.alloc (.cells #[.pointer (some ⟨g, 0, none⟩)] 48)).alloc (.cells #[.slice A n cb] 46)) nq) = W3 at h3 hb3 hr3 ⊢
    have c0 : W3.cell? ⟨g, 0, none⟩ = some (.slice (some ⟨d, 0, none⟩) N c) := h3.cell (i := 0) rfl rfl
    have c1 : W3.cell? ⟨W.heap.size, 0, none⟩ = some (.pointer (some ⟨g, 0, none⟩)) := h3.cell (i := 3) rfl rfl
    have c2 : W3.cell? ⟨W.heap.size + 1, 0, none⟩ = some (.slice A n cb) := h3.cell (i := 4) rfl rfl
    have hus : (u8s bs).length = n := by simp [hbl]
    have HSRC := hide_ (show 0 < (u8s bs).length → ∃ ad, A = some ad ∧ ∀ j v, (u8s bs)[j]? = some v → W3.drew.cell? (ad.add j) = some v from fun h => by
      obtain ⟨ad, e, _, hc⟩ := hr3.2 (by omega)
      exact ⟨ad, e, hc⟩)
    have HUS := hide_ hus
    have H3 := hide_ h3
    have HB3 := hide_ hb3
    clear h3 hb3 hr3 hus
    go_region_held3 (fun W' => W'.cell? ⟨g, 0, none⟩ = some (.slice (some ⟨d, 0, none⟩) N c) ∧ W'.cell? ⟨W.heap.size, 0, none⟩ = some (.pointer (some ⟨g, 0, none⟩)) ∧ W'.cell? ⟨W.heap.size + 1, 0, none⟩ = some (.slice A n cb))
      (first | exact ⟨c0, c1, c2⟩ | exact ⟨hO9.cell (i := 0) rfl rfl, hO9.cell (i := 3) rfl rfl, hO9.cell (i := 4) rfl rfl⟩)
      ((first
        | (go_at_call 114; go_split_ands; refine (HP.out _ (by assumption)).mono ?_; rintro e w' ⟨rfl, rfl⟩)
        | (refine step_copy_owns (by rfl) _ _ _ _ (by rfl) 5 Try.underlying46 u8_one d p (N - p) (c - p) n cb A (by rfl) (by rfl) B _ 1 5 N c (u8s xs) (u8s bs) rfl H3.out.drew (by rw [HUS.out]; show n = min n (N - p); omega) HSRC.out (by rw [HUS.out]; omega) (one_u8s bs) ?_; intro w9 hO9 hb9 hs9)))
    have hO10 : Owns w9 B (memRows g d N c false tv ts (puts N a bs xs n) ++ ([mboxR W.heap.size g, sboxR (W.heap.size + 1) A n cb] ++ ex)) := by
      rw [HPS.out]
      unfold memRows
      rw [u8s_splice]
      exact hO9
    have HO10 := hide_ hO10
    have HB10 := hide_ (HB3.out.drew.trans hb9)
    clear hO9 hO10 hb9
    go_wp2
    refine bodyPost_ret (results_none rfl _ _ _) rfl ?_
    exact ⟨rfl, tv, by rw [HNT.out]; exact HO10.out.sub (box_sub _ _ _ _), HB10.out⟩
  · have hp' : (!logs && decide (a % (N : Int) + n ≤ (N : Int))) = false := by simpa using hp
    rw [hp'] at hpl
    clear hR h2 hb2 hO h1b HO2 hs2 hp hp'
    subst hW2
    go_enter Try.func79, Try.ntmps79
    go_wp2_with (first
      | (go_at_call 113; refine hpl.out.mono ?_; rintro e w' ⟨rfl, nq, rfl⟩)
      | (go_at_call 110; refine (HEach.out _).mono ?_; rintro e w4 ⟨rfl, tv4, hO4, hb4⟩))
    go_end0
    exact ⟨rfl, tv4, hO4.sub (box_sub _ _ _ _), (below_draws2 HB2.out nq).trans hb4⟩
/-! ### read -/
def readPart (N : Nat) (a : Int) (xs : List Int) (n k : Nat) : List Int := (List.range n).map fun j => if j < k then gt xs (plc N a j) else 0
theorem readPart_len (N : Nat) (a : Int) (xs : List Int) (n k : Nat) : (readPart N a xs n k).length = n := by simp [readPart]
theorem readPart_all (N : Nat) (a : Int) (xs : List Int) (n : Nat) : readPart N a xs n n = readN N a xs n := List.map_congr_left (fun _ hj => if_pos (List.mem_range.1 hj))
theorem readPart_set (N : Nat) (a : Int) (xs : List Int) (n k : Nat) (hk : k < n) : (readPart N a xs n k).set k (gt xs (plc N a k)) = readPart N a xs n (k + 1) := by
  apply List.ext_getElem?
  intro j
  rw [List.getElem?_set, readPart_len]
  unfold readPart
  rw [List.getElem?_map, List.getElem?_map]
  by_cases hj : j < n
  · rw [List.getElem?_range hj, Option.map_some, Option.map_some]
    by_cases e : k = j
    · subst e
      rw [if_pos rfl, if_pos hk, if_pos (by omega)]
    · rw [if_neg e]
      by_cases c1 : j < k
      · rw [if_pos c1, if_pos (by omega)]
      · rw [if_neg c1, if_neg (by omega)]
  · rw [List.getElem?_eq_none (l := List.range n) (by simpa using hj), if_neg (by omega)]
    rfl
theorem read_perm (a b o : Ro) (l ex : List Ro) : ((l ++ ex) ++ [a] ++ [o] ++ [b]).Perm (l ++ ([a, b, o] ++ ex)) := by
  rw [List.append_assoc, List.append_assoc, List.append_assoc]
  refine (List.perm_append_left_iff l).2 ?_
  exact List.perm_append_comm.trans (List.Perm.append_right _ (List.Perm.cons _ (List.Perm.swap _ _ _)))
theorem read_sub (a b o : Ro) (l ex : List Ro) : (l ++ (o :: ex)).Sublist (l ++ ([a, b, o] ++ ex)) := (List.Sublist.refl l).append (.cons _ (.cons _ (.refl _)))
set_option maxRecDepth 100000 in
set_option maxHeartbeats 1000000 in
theorem read_any (a : Int) (n : Nat) (hO : Owns W B (memRows g d N c logs tv ts xs ++ ex)) (hB : B ≤ W.heap.size) (hN : IsPow N) (hx : xs.length = N) (h0 : 0 ≤ a) (h1 : a ≤ 4294967295) (hn : n ≤ 4096) :
    Calls Try.prog 80 #[.pointer (some ⟨g, 0, none⟩), .int .u32 a, .int .i64 n] W fun e W' => ∃ o tv', e = .returned (.slice (some ⟨o, 0, none⟩) n n) ∧
      Owns W' B (memRows g d N c logs tv' (notes N logs false a ts n) xs ++ (outR o n n (readN N a xs n) :: ex)) ∧ Below B W W' := by
  obtain ⟨i0, hi0, hz0, hz1, hz2⟩ := info_parts Try.info_u8
  have h1b := hO.box 48 #[.pointer (some ⟨g, 0, none⟩)] hB (show 1 ≤ maxLen by unfold maxLen; decide)
  have HO1 := hide_ h1b
  clear h1b hO
  go_enter Try.func80, Try.ntmps80
  go_wp2_with (refine wpList_make_full _ rfl (.tmp 8) (.tmp 8) 46 rfl (W.heap.size + 1) 5 i0 _ 1 Try.underlying46 hi0 hz0 hz1 .i64 .i64 (n : Int) (n : Int) n rfl rfl rfl rfl (by rw [hz2]; omega) (by simp only [maxLen]; omega) (by simp) ?_)
  intro w1 hown hg
  have e1 : (madeCells #[Value.int .u8 0] n).toList = u8s (readPart N a xs n 0) := by
    rw [toList_madeCells_one]
    apply List.ext_getElem?
    intro j
    unfold u8s readPart
    rw [List.map_map, List.getElem?_map, List.getElem?_replicate]
    by_cases hj : j < n
    · rw [if_pos hj, List.getElem?_range hj]
      rfl
    · rw [if_neg hj, List.getElem?_eq_none (l := List.range n) (by simpa using hj)]
      rfl
  rw [e1] at hown
  have hb1 : Below (W.alloc (.cells #[.pointer (some ⟨g, 0, none⟩)] 48)).heap.size (W.alloc (.cells #[.pointer (some ⟨g, 0, none⟩)] 48)) w1 := (Below.refl _ _).grown hg (Nat.le_refl _) (fun k e => by cases e)
  have hO2 := HO1.out.push hb1 (r := outR (W.heap.size + 1) n n (readPart N a xs n 0)) (show w1.ownsRow (W.alloc (.cells #[.pointer (some ⟨g, 0, none⟩)] 48)).heap.size 5 1 (.slice (some ⟨W.heap.size + 1, 0, none⟩) n n) n (u8s (readPart N a xs n 0)) by rw [World.size_alloc]; exact hown) (by simp; omega)
  have hBW : Below B W w1 := ((Below.refl B W).alloc hB _).trans (hb1.mono (by simp; omega))
  have hO3 := hO2.box 46 #[.slice (some ⟨W.heap.size + 1, 0, none⟩) n n] (Nat.le_trans hB hBW.size) (show 1 ≤ maxLen by unfold maxLen; decide)
  have h2 : Owns (w1.alloc (.cells #[.slice (some ⟨W.heap.size + 1, 0, none⟩) n n] 46)) B (memRows g d N c logs tv ts xs ++ ([mboxR W.heap.size g, sboxR w1.heap.size (some ⟨W.heap.size + 1, 0, none⟩) n n, outR (W.heap.size + 1) n n (readPart N a xs n 0)] ++ ex)) := hO3.swap (read_perm _ _ _ _ _)
  have hb2 : Below B W (w1.alloc (.cells #[.slice (some ⟨W.heap.size + 1, 0, none⟩) n n] 46)) := hBW.alloc (Nat.le_trans hB hBW.size) _
  obtain ⟨f, hf⟩ : ∃ f, f = w1.heap.size := ⟨_, rfl⟩
  have m1 : w1.cell? ⟨W.heap.size, 0, none⟩ = some (.pointer (some ⟨g, 0, none⟩)) := ((Blk.new W 48 #[.pointer (some ⟨g, 0, none⟩)]).below hb1 (by simp)).cell 0
  have m2 : W.heap.size < w1.heap.size := by have := hb1.size; simp at this; omega
  rw [← hf] at h2
  have hs2 : B ≤ (w1.alloc (.cells #[.slice (some ⟨W.heap.size + 1, 0, none⟩) n n] 46)).heap.size := Nat.le_trans hB hb2.size
  have hpl := hide_ (plain_any g d N c n logs a (w1.alloc (.cells #[.slice (some ⟨W.heap.size + 1, 0, none⟩) n n] 46)) (h2.cell (i := 0) rfl rfl) (h2.cell (i := 0) rfl rfl) hN h0 h1 (by omega))
  have HEach := hide_ (fun nq : Nat => each_read g d N c n W.heap.size f logs false a (fun _ => xs) (fun k => [mboxR W.heap.size g, sboxR f (some ⟨W.heap.size + 1, 0, none⟩) n n, outR (W.heap.size + 1) n n (readPart N a xs n k)] ++ ex) ts tv B ((w1.alloc (.cells #[.slice (some ⟨W.heap.size + 1, 0, none⟩) n n] 46)).drewN nq) (h2.drewN nq) hs2 hN (by omega)
    (fun k hk W1 tv1 ts1 hO1 hb1 => by
      have := read1_any k n (W.heap.size + 1) n (readPart N a xs n k) (plc N a k) hO1 hk (readPart_len _ _ _ _ _) hx (plc_bd hN a k).1 (plc_bd hN a k).2
      rw [readPart_set _ _ _ _ _ hk] at this
      exact this))
  have HALL := hide_ (fun nq : Nat => (⟨h2.drewN nq, below_draws2 hb2 nq⟩ : Owns ((w1.alloc (.cells #[.slice (some ⟨W.heap.size + 1, 0, none⟩) n n] 46)).drewN nq) B (memRows g d N c logs tv ts xs ++ ([mboxR W.heap.size g, sboxR f (some ⟨W.heap.size + 1, 0, none⟩) n n, outR (W.heap.size + 1) n n (readPart N a xs n 0)] ++ ex)) ∧ Below B W ((w1.alloc (.cells #[.slice (some ⟨W.heap.size + 1, 0, none⟩) n n] 46)).drewN nq)))
  by_cases hp : (!logs && decide (a % (N : Int) + n ≤ (N : Int))) = true
  · rw [hp] at hpl
    simp only [Bool.and_eq_true, Bool.not_eq_true', decide_eq_true_eq] at hp
    obtain ⟨rfl, hfit⟩ := hp
    obtain ⟨p, hpp⟩ : ∃ p : Nat, a % (N : Int) = (p : Int) := Int.eq_ofNat_of_zero_le (Int.emod_nonneg _ (by have := hN.bd; omega))
    rw [hpp] at hfit
    have hpN : p < N := by have := Int.emod_lt_of_pos a (show (0 : Int) < N by have := hN.bd; omega); omega
    have HP := hide_ (fun (W' : World) (h : W'.cell? ⟨g, 0, none⟩ = some (.slice (some ⟨d, 0, none⟩) N c)) => place_any g d N c a W' h hN h0 h1)
    rw [hpp] at HP
    have HCUT := hide_ (readN_cut hN hx p n hpp (by omega))
    have HNT := hide_ (show notes N false false a ts n = ts from notes_off _ _ _ _ _)
    obtain ⟨_, cap', hcap, hNc, _⟩ := ownsRow_slice (h2.at_ (i := 1) rfl)
    have hcap2 : Value.slice (some ⟨d, 0, none⟩) N c = .slice _ N cap' := hcap
    injection hcap2 with _ _ hcap3
    subst hcap3
    have hcp : ¬ c = p := by have : N ≤ c := hNc; omega
    have hd0 : (0 : Int) ≤ (p : Int) := by omega
    have hd1 : (p : Int) ≤ (N : Int) := by omega
    clear HEach h2 hb2 hO3 hO2 hown hb1 hg e1 hs2 hBW
    go_wp2_with (go_at_call 113; refine hpl.out.mono ?_; rintro e w' ⟨rfl, nq, rfl⟩)
    rw [← hf]
    obtain ⟨h3, hb3⟩ := HALL.out nq
    generalize (World.drewN (w1.alloc (.cells #[.slice (some ⟨W.heap.size + 1, 0, none⟩) n n] 46)) nq) = W3 at h3 hb3 ⊢
    clear hf m1 m2 HALL hpl
    have c0 : W3.cell? ⟨g, 0, none⟩ = some (.slice (some ⟨d, 0, none⟩) N c) := h3.cell (i := 0) rfl rfl
    have c1 : W3.cell? ⟨W.heap.size, 0, none⟩ = some (.pointer (some ⟨g, 0, none⟩)) := h3.cell (i := 3) rfl rfl
    have c2 : W3.cell? ⟨f, 0, none⟩ = some (.slice (some ⟨W.heap.size + 1, 0, none⟩) n n) := h3.cell (i := 4) rfl rfl
    have hcs : (((u8s xs).drop p).take n).length = n := by simp; omega
    have HSRC := hide_ (show 0 < (((u8s xs).drop p).take n).length → ∃ ad, some (⟨d, p, none⟩ : Addr) = some ad ∧ ∀ j v, (((u8s xs).drop p).take n)[j]? = some v → W3.drew.cell? (ad.add j) = some v from fun _ => ⟨_, rfl, fun j v hv => by
      rw [List.getElem?_take] at hv
      split at hv
      · rw [List.getElem?_drop] at hv
        have e2 : (⟨d, p, none⟩ : Addr).add j = ⟨d, p + j, none⟩ := by unfold Addr.add; split <;> simp_all
        rw [e2]
        exact h3.cell (i := 1) rfl hv
      · cases hv⟩)
    have HCS := hide_ hcs
    have HONE := hide_ (show ∀ u ∈ ((u8s xs).drop p).take n, u.oneCell' = true from fun u hu => one_u8s xs u (List.mem_of_mem_drop (List.mem_of_mem_take hu)))
    have H3 := hide_ h3
    have HB3 := hide_ hb3
    clear h3 hb3 hcs
    go_region_held3 (fun W' => W'.cell? ⟨g, 0, none⟩ = some (.slice (some ⟨d, 0, none⟩) N c) ∧ W'.cell? ⟨W.heap.size, 0, none⟩ = some (.pointer (some ⟨g, 0, none⟩)) ∧ W'.cell? ⟨f, 0, none⟩ = some (.slice (some ⟨W.heap.size + 1, 0, none⟩) n n))
      (first | exact ⟨c0, c1, c2⟩ | exact ⟨hO9.cell (i := 0) rfl rfl, hO9.cell (i := 3) rfl rfl, hO9.cell (i := 4) rfl rfl⟩)
      ((first
        | (go_at_call 114; go_split_ands; refine (HP.out _ (by assumption)).mono ?_; rintro e w' ⟨rfl, rfl⟩)
        | (refine step_copy_owns (by rfl) _ _ _ _ (by rfl) 5 Try.underlying46 u8_one (W.heap.size + 1) 0 n n (N - p) (c - p) (some ⟨d, p, none⟩) (by rfl) (by rfl) B _ 5 5 n n (u8s (readPart N a xs n 0)) (((u8s xs).drop p).take n) rfl H3.out.drew (by rw [HCS.out]; show n = min (N - p) n; omega) HSRC.out (by rw [HCS.out]; omega) HONE.out ?_; intro w9 hO9 hb9 hs9)))
    have hO10 : Owns w9 B (memRows g d N c false tv ts xs ++ ([mboxR W.heap.size g, sboxR f (some ⟨W.heap.size + 1, 0, none⟩) n n, outR (W.heap.size + 1) n n (readN N a xs n)] ++ ex)) := by
      have e3 : splice (u8s (readPart N a xs n 0)) 0 (((u8s xs).drop p).take n) = u8s (readN N a xs n) := by
        have e4 : (u8s (readPart N a xs n 0)).drop n = [] := List.drop_eq_nil_of_le (by simp [readPart])
        rw [← HCUT.out]
        unfold splice
        rw [HCS.out, Nat.zero_add, e4, List.take_zero, List.nil_append, List.append_nil]
        simp [u8s, List.map_take, List.map_drop]
      unfold outR
      rw [← e3]
      exact hO9
    have c3 : w9.cell? ⟨f, 0, none⟩ = some (.slice (some ⟨W.heap.size + 1, 0, none⟩) n n) := hO10.cell (i := 4) rfl rfl
    have HO10 := hide_ hO10
    have HB10 := hide_ (HB3.out.drew.trans hb9)
    clear hO9 hO10 hb9
    go_split_ands
    go_wp2
    go_ret
    exact ⟨_, tv, rfl, by rw [HNT.out]; exact HO10.out.sub (read_sub _ _ _ _ _), HB10.out⟩
  · have hp' : (!logs && decide (a % (N : Int) + n ≤ (N : Int))) = false := by simpa using hp
    rw [hp'] at hpl
    clear h2 hb2 hO3 hO2 hown hb1 hg e1 hs2 hBW hp hp'
    subst hf
    go_wp2_with (first
      | (go_at_call 113; refine hpl.out.mono ?_; rintro e w' ⟨rfl, nq, rfl⟩)
      | (go_at_call 110; refine (HEach.out _).mono ?_; rintro e w4 ⟨rfl, tv4, hO4, hb4⟩; have c3 : w4.cell? ⟨w1.heap.size, 0, none⟩ = some (.slice (some ⟨W.heap.size + 1, 0, none⟩) n n) := hO4.cell (i := 4) rfl rfl))
    go_ret
    rw [readPart_all] at hO4
    exact ⟨_, tv4, rfl, hO4.sub (read_sub _ _ _ _ _), (HALL.out nq).2.trans hb4⟩
end
end Go.Proofs.Ytgppbdcnpailaaa
