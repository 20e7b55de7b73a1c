/-
  The walk of playpenkit.KeptReply, of a reply that was lent and is as it was.
-/
import Derived.Test.YtcfpclhoockcfaaM04
import Derived.Test.YtcfpclhoockcfaaM13
import Derived.Test.YtcfpclhoockcfaaM17
import Derived.Deep.RegionHeld3
namespace Go.Proofs.Ytcfpclhoockcfaa
open Go.RowKit

theorem below_draws {B : Nat} {a w : World} (h : Below B a w) (k : Nat) : Below B a (w.drewN k) := by
  induction k with
  | zero => exact h
  | succ k ih => exact ih.drew
theorem Reads.pre {w : World} {B n m : Nat} {A : Option Addr} {xs ys : List Value} (h : Reads w B 1 A (n + m) (xs ++ ys)) (hx : xs.length = n) : Reads w B 1 A n xs := by
  refine ⟨by omega, fun hn => ?_⟩
  obtain ⟨ad, e, hb, hc⟩ := h.2 (by omega)
  exact ⟨ad, e, hb, fun j u hu => hc j u (by rw [List.getElem?_append_left (List.getElem?_eq_some_iff.1 hu).1]; exact hu)⟩
theorem wCells_len (ws : Nat → Wr) (vs : Nat → Value) (k : Nat) : (wCells ws vs k).length = k * 2 := by
  induction k with
  | zero => rfl
  | succ k ih => rw [wCells_succ, List.length_append, ih]; simp; omega
theorem wCells_get (ws : Nat → Wr) (vs : Nat → Value) (ex : List Value) {n j : Nat} (h : j < n) :
    (wCells ws vs n ++ ex)[j * 2]? = some (.int .u32 (ws j).at_) ∧ (wCells ws vs n ++ ex)[j * 2 + 1]? = some (cutV (vs j) (ws j).n) := by
  induction n generalizing ex with
  | zero => omega
  | succ n ih =>
    rw [wCells_succ, List.append_assoc]
    by_cases e : j = n
    · subst e
      have hl := wCells_len ws vs j
      refine ⟨?_, ?_⟩
      · rw [List.getElem?_append_right (by omega), hl]; simp
      · rw [List.getElem?_append_right (by omega), hl, show j * 2 + 1 - j * 2 = 1 by omega]; simp
    · exact ih _ (by omega)
theorem tails_get (xs : List Value) {n i : Nat} (hx : xs.length = n * 2) (hi : i < 4) :
    (xs ++ tails 4)[(n + i) * 2]? = some (.int .u32 (77 + (i : Int))) ∧ (xs ++ tails 4)[(n + i) * 2 + 1]? = some (.slice none 0 0) := by
  rw [List.getElem?_append_right (by omega), List.getElem?_append_right (by omega), show (n + i) * 2 - xs.length = i * 2 by omega, show (n + i) * 2 + 1 - xs.length = i * 2 + 1 by omega]
  match i, hi with
  | 0, _ => exact ⟨rfl, rfl⟩
  | 1, _ => exact ⟨rfl, rfl⟩
  | 2, _ => exact ⟨rfl, rfl⟩
  | 3, _ => exact ⟨rfl, rfl⟩
noncomputable def keptRows (b : Nat) (v : Int) (A : Option Addr) (n c : Nat) (ws : Nat → Wr) (zs : Nat → List Int) (vs : Nat → Value) (Af : Option Addr) (cf : Nat) (Aw : Option Addr) (cw : Nat) : List Ro :=
  [⟨81, 1, .slice (some ⟨b, 0, none⟩) 3 3, 3, [.int .u32 v, .slice Aw n cw, .slice Af n cf]⟩,
   ⟨43, 1, .slice (some ⟨b + 1, 0, none⟩) 2 2, 2, [.int .u32 v, .slice A n c]⟩,
   ⟨23, 1, .slice Af n cf, n, (List.range n).map vs⟩,
   ⟨104, 2, .slice Aw (n + 4) cw, n + 4, wCells ws vs n ++ tails 4⟩] ++ rowsF n (lentRow ws zs vs)
theorem keptRows_at {b : Nat} {v : Int} {A : Option Addr} {n c : Nat} {ws : Nat → Wr} {zs : Nat → List Int} {vs : Nat → Value} {Af : Option Addr} {cf : Nat} {Aw : Option Addr} {cw j : Nat} (hj : j < n) :
    (keptRows b v A n c ws zs vs Af cf Aw cw)[4 + j]? = some (lentRow ws zs vs j) := by
  unfold keptRows
  rw [List.getElem?_append_right (by simp), show 4 + j - _ = j from by simp]
  simp [rowsF, hj]
/-- what the walk asks of place j -/
theorem kept_place {w : World} {B B' b : Nat} {v : Int} {A : Option Addr} {n c : Nat} {ws : Nat → Wr} {zs : Nat → List Int} {vs : Nat → Value} {Af : Option Addr} {cf : Nat} {Aw : Option Addr} {cw j : Nat}
    (hO : Owns w B (keptRows b v A n c ws zs vs Af cf Aw cw)) (hj : j < n) (hz : Reads w B' 1 (ws j).A (ws j).n (u8s (zs j))) (hB' : B' ≤ w.heap.size) :
    ∃ gw gf A5 c5, Aw = some ⟨gw, 0, none⟩ ∧ Af = some ⟨gf, 0, none⟩ ∧ w.cell? ⟨gw, j * 2, none⟩ = some (.int .u32 (ws j).at_) ∧ w.cell? ⟨gw, j * 2 + 1, none⟩ = some (.slice A5 (ws j).n c5) ∧
      w.cell? ⟨gf, j, none⟩ = some (.slice A5 ((ws j).n + 64) c5) ∧ Reads w w.heap.size 1 A5 (ws j).n (u8s (zs j)) ∧ Reads w w.heap.size 1 A5 ((ws j).n + 64) (u8s (zs j ++ marks8 0 0 64)) ∧
      Reads w w.heap.size 1 (ws j).A (ws j).n (u8s (zs j)) := by
  obtain ⟨gf, cf', hf⟩ := ownsRow_some (hO.at_ (i := 2) rfl) (show 0 < n by omega)
  obtain ⟨gw, cw', hw⟩ := ownsRow_some (hO.at_ (i := 3) rfl) (show 0 < n + 4 by omega)
  injection hf with hf1 hf2 hf3
  injection hw with hw1 hw2 hw3
  subst hf1 hw1
  have hrow := hO.at_ (keptRows_at (b := b) (v := v) (A := A) (c := c) (ws := ws) (zs := zs) (vs := vs) (Af := some ⟨gf, 0, none⟩) (cf := cf) (Aw := some ⟨gw, 0, none⟩) (cw := cw) hj)
  obtain ⟨A5, c5, h5, _, _⟩ := ownsRow_slice hrow
  have h6 : vs j = .slice A5 ((ws j).n + 64) c5 := h5
  obtain ⟨g1, g2⟩ := wCells_get ws vs (tails 4) hj
  rw [h6] at g2
  have hrd : Reads w w.heap.size 1 A5 ((ws j).n + 64) (u8s (zs j ++ marks8 0 0 64)) := by
    unfold lentRow at hrow
    rw [h6] at hrow
    exact Reads.of_own hrow
  refine ⟨gw, gf, A5, c5, rfl, rfl, hO.cell (i := 3) rfl g1, hO.cell (i := 3) rfl g2, hO.cell (i := 2) rfl (u := .slice A5 ((ws j).n + 64) c5) (by rw [← h6]; simp [hj]), ?_, hrd, hz.more hB'⟩
  rw [u8s_app] at hrd
  exact hrd.pre (by have := hz.1; simpa using this)

set_option maxRecDepth 100000 in
set_option maxHeartbeats 1000000 in
theorem KeptReply_any (v : Int) (A : Option Addr) (n c : Nat) (ws : Nat → Wr) (zs : Nat → List Int) (vs : Nat → Value) (Af : Option Addr) (cf : Nat) (Aw : Option Addr) (cw B B' : Nat) (w : World)
    (hO0 : Owns w B ([⟨23, 1, .slice Af n cf, n, (List.range n).map vs⟩, ⟨104, 2, .slice Aw (n + 4) cw, n + 4, wCells ws vs n ++ tails 4⟩] ++ rowsF n (lentRow ws zs vs))) (hB : B ≤ w.heap.size)
    (h : WReads w B' A n ws) (hB' : B' ≤ w.heap.size) (hn : n * 32 ≤ 140737488351232) (hcw : n + 4 ≤ cw)
    (hz : ∀ j, j < n → Reads w B' 1 (ws j).A (ws j).n (u8s (zs j)) ∧ (ws j).n ≤ 140737488351232 ∧ (ws j).n ≤ (ws j).c) :
    Calls Try.prog 37 #[.agg #[.int .u32 v, .slice Aw n cw, .slice Af n cf], .agg #[.int .u32 v, .slice A n c]] w fun e w' => e = .returned (.bool true) ∧ Below w.heap.size w w' := by
  have h0O : Owns ((w.alloc (.cells #[.int .u32 v, .slice Aw n cw, .slice Af n cf] 81)).alloc (.cells #[.int .u32 v, .slice A n c] 43)) B (keptRows w.heap.size v A n c ws zs vs Af cf Aw cw) := by
    have h1 := hO0.box 81 #[.int .u32 v, .slice Aw n cw, .slice Af n cf] hB (show 3 ≤ maxLen by unfold maxLen; decide)
    have h2 := h1.box 43 #[.int .u32 v, .slice A n c] (by simp; omega) (show 2 ≤ maxLen by unfold maxLen; decide)
    refine h2.swap ?_
    simp only [World.size_alloc, keptRows]
    exact (List.perm_append_comm (l₂ := [_])).trans (List.Perm.trans (List.Perm.cons _ (List.perm_append_comm (l₂ := [_]))) (List.Perm.swap _ _ _))
  have h0B : Below w.heap.size w ((w.alloc (.cells #[.int .u32 v, .slice Aw n cw, .slice Af n cf] 81)).alloc (.cells #[.int .u32 v, .slice A n c] 43)) := ((Below.refl _ _).alloc (Nat.le_refl _) _).alloc (by simp) _
  have h1O := hO0
  have HO := hide_ h0O
  have HB0 := hide_ h0B
  have HZ := hide_ hz
  have w0 : IntKind.i64.wrap ((n : Int) + 4) = (n : Int) + 4 := IntWalk.i64_in _ (by omega)
  have w1 : (0 : Int) ≤ (n : Int) + 4 := by omega
  have w2 : (n : Int) + 4 ≤ (cw : Int) := by omega
  have w3 : ((n : Int) + 4).toNat = n + 4 := by omega
  clear h0O h0B hz hO0 h1O
  go_enter Try.func37, Try.ntmps37
  go_wp2
  go_loopw [7] (fun i wr => ∃ k : Nat, k ≤ n ∧ i = .int .i64 k ∧ Owns wr B (keptRows w.heap.size v A n c ws zs vs Af cf Aw cw) ∧ Below w.heap.size w wr) (fun i _ => n - (intOf i).toNat)
  case atStart => exact ⟨0, Nat.zero_le _, rfl, HO.out, HB0.out⟩
  case round =>
    obtain ⟨k, hk, rfl, hO, hbl⟩ := hrel
    have hsz := hbl.size
    by_cases hlt : k < n
    · have x1 : wr.cell? ⟨w.heap.size, 1, none⟩ = some (.slice Aw n cw) := hO.cell (i := 0) rfl rfl
      have x2 : wr.cell? ⟨w.heap.size, 2, none⟩ = some (.slice Af n cf) := hO.cell (i := 0) rfl rfl
      have y1 : wr.cell? ⟨w.heap.size + 1, 1, none⟩ = some (.slice A n c) := hO.cell (i := 1) rfl rfl
      have y2 : w.heap.size + 1 < wr.heap.size := (hO.base (i := 1) rfl).2
      obtain ⟨hzk, hn5, _⟩ := HZ.out k hlt
      obtain ⟨gw, gf, A5, c5, rfl, rfl, q1, q2, q3, r1, r2, r3⟩ := kept_place hO hlt (hzk.below (hbl.mono hB')) (by omega)
      have b3 : gw < wr.heap.size := (hO.base (i := 3) rfl).2
      have b4 : gf < wr.heap.size := (hO.base (i := 2) rfl).2
      obtain ⟨ad, rfl, hb, hc0, hc1⟩ := (h.below (hbl.mono hB')).at_ hlt
      have hb' : (ad.add (k * 2)).block < wr.heap.size := by omega
      have S1 := hide_ (fun N : Nat => SameBytes_any A5 (ws k).A (ws k).n c5 (ws k).n (ws k).c (zs k) (zs k) wr.heap.size (wr.drewN N) r1 r3 (by unfold maxLen; omega) (by unfold maxLen; omega))
      have S2 := hide_ (fun N : Nat => KeptBytes_any A5 (ws k).A ((ws k).n + 64) c5 (ws k).n (ws k).c (zs k ++ marks8 0 0 64) (zs k) wr.heap.size (wr.drewN N) r2 r3 (by unfold maxLen; omega) (by unfold maxLen; omega))
      simp only [decide_true] at S1 S2
      have d1 : ((ws k).at_ != (ws k).at_) = false := by simp
      have HOO := hide_ hO
      have HBL := hide_ hbl
      clear r1 r2 r3 hzk hO hbl hb hsz
      go_wp2
      go_quiet (first
        | (go_at_call 43; exact Calls.quiet_of (S1.out _))
        | (go_at_call 56; exact Calls.quiet_of (S2.out _)))
      go_wp2
      go_roundw
      case rel => exact ⟨k + 1, by omega, by go_num, HOO.out.drewN nq, below_draws HBL.out nq⟩
      case measure => simp [intOf]; omega
    · obtain rfl : k = n := by omega
      go_wp2
      go_loopw [8] (fun i wr => ∃ i' : Nat, i' ≤ 4 ∧ i = .int .i64 i' ∧ Owns wr B (keptRows w.heap.size v A k c ws zs vs Af cf Aw cw) ∧ Below w.heap.size w wr) (fun i _ => 4 - (intOf i).toNat)
      case atStart => exact ⟨0, Nat.zero_le _, rfl, hO, hbl⟩
      case round =>
        clear hO hbl hsz
        obtain ⟨i, hi, rfl, hO, hbl⟩ := hrel
        by_cases hlt2 : i < 4
        · obtain ⟨gw, cw', hw⟩ := ownsRow_some (hO.at_ (i := 3) rfl) (show 0 < k + 4 by omega)
          injection hw with hw1 hw2 hw3
          subst hw1
          clear hw2 hw3
          obtain ⟨t1, t2⟩ := tails_get (wCells ws vs k) (wCells_len ws vs k) hlt2
          have q1 : wr.cell? ⟨gw, (k + i) * 2, none⟩ = some (.int .u32 (77 + (i : Int))) := hO.cell (i := 3) rfl t1
          have q2 : wr.cell? ⟨gw, (k + i) * 2 + 1, none⟩ = some (.slice none 0 0) := hO.cell (i := 3) rfl t2
          have s1 : IntKind.i64.wrap ((k : Int) + (i : Int)) = (k : Int) + (i : Int) := IntWalk.i64_in _ (by omega)
          have s2 : (0 : Int) ≤ (k : Int) + (i : Int) := by omega
          have s3 : ((k : Int) + (i : Int)).toNat = k + i := by omega
          have s4 : (k : Int) + (i : Int) < (k : Int) + 4 := by omega
          have d1 : ((77 : Int) + (i : Int) != 77 + (i : Int)) = false := by simp
          have HOO := hide_ hO
          have HBL := hide_ hbl
          clear t1 t2 hO hbl
          go_wp2
          go_roundw
          case rel => exact ⟨i + 1, by omega, by go_num, HOO.out, HBL.out⟩
          case measure => simp [intOf]; omega
        · obtain rfl : i = 4 := by omega
          go_wp2
          go_ret
          exact ⟨rfl, hbl⟩
end Go.Proofs.Ytcfpclhoockcfaa
/-
  Lists of grants: lent, kept, written over; what the document grants, and whether a list lies within another.
-/
namespace Go.Proofs.Ytcfpclhoockcfaa
open Go.RowKit Go.PlainAid Go.BigFrame
set_option linter.unusedVariables false
set_option linter.unusedSimpArgs false
set_option maxRecDepth 100000
theorem gr_info : (Try.prog.info? 68).map (fun i => (i.zero, i.size, i.bytes)) = some (some (.agg #[.int .u32 0, .int .i64 0]), 2, 16) := by kernel_rfl
theorem gr_eq (w : World) (x a : Int) : (binOp .neq 68 (.agg #[.int .u32 x, .int .i64 a]) (.agg #[.int .u32 x, .int .i64 a])).run Try.prog w = .ok (.bool false) w := by
  rw [run_neq_struct, run_equalIn_agg _ _ _ _ _ (by kernel_rfl) (by kernel_rfl)]
  have h := @Try.underlying68
  simp only [go_sem, h]
  simp
  go_simp
theorem gCells_set : ∀ (X : List (Int × Int)) (j : Nat) (m : Int × Int), j < X.length → ((gCells X).set (j * 2) (.int .u32 m.1)).set (j * 2 + 1) (.int .i64 m.2) = gCells (X.set j m)
  | [], j, m, h => by simp at h
  | x :: X, 0, m, _ => by simp [gCells]
  | x :: X, j + 1, m, h => by
    have ih := gCells_set X j m (by simpa using h)
    unfold gCells at ih ⊢
    rw [List.flatMap_cons, show (j + 1) * 2 = j * 2 + 2 by omega, show j * 2 + 2 + 1 = j * 2 + 1 + 2 by omega]
    rw [List.set_append_right _ _ (by simp), List.set_append_right _ _ (by simp)]
    simp only [List.length_cons, List.length_nil, Nat.add_sub_cancel, List.set_cons_succ, List.flatMap_cons]
    rw [← ih]
def marksG (n : Nat) : List (Int × Int) := (List.range n).map fun i => (7000000 + (i : Nat), -7)
theorem marksG_succ (n : Nat) : marksG (n + 1) = marksG n ++ [(7000000 + (n : Int), -7)] := by simp [marksG, List.range_succ]
theorem marksG_len (n : Nat) : (marksG n).length = n := by simp [marksG]
theorem marksG_get {n i : Nat} (h : i < n) : (marksG n)[i]? = some (7000000 + (i : Int), -7) := by simp [marksG, h]
theorem one_gC (l : List (Int × Int)) : ∀ u ∈ gCells l, u.oneCell' = true := by
  intro u hu
  obtain ⟨t, _, h⟩ := List.mem_flatMap.1 hu
  simp only [List.mem_cons, List.not_mem_nil, or_false] at h
  rcases h with rfl | rfl <;> rfl
set_option maxHeartbeats 2000000 in
theorem LentGrants_any (A : Option Addr) (n c B : Nat) (l : List (Int × Int)) (w : World) (hr : Reads w B 2 A n (gCells l)) (hB : B ≤ w.heap.size) (hn : n * 16 ≤ 140737488351232) :
    Calls Try.prog 10 #[.slice A n c] w fun e w' => ∃ v, e = .returned v ∧ w'.ownsRow w.heap.size 68 2 v (n + 64) (gCells (l ++ marksG 64)) ∧ Below w.heap.size w w' := by
  obtain ⟨i0, hi0, hz0, hz1, hz2⟩ := info_parts gr_info
  have HR := hide_ hr
  have HBB := hide_ hB
  have HO0 := hide_ (Owns.nilrow (Owns.nil_ (w := w) (B := w.heap.size)) 68 2)
  have H1 := hide_ (one_gC l)
  clear hr hB
  go_enter Try.func10, Try.ntmps10
  go_wp2_with (at_builtin; refine wpList_append_owns _ rfl (.tmp 5) (.tmp 6) 22 rfl w.heap.size _ 0 68 2 (.slice none 0 0) 0 [] rfl HO0.out (Nat.le_refl _) i0 _ 16 Try.underlying22 hi0 hz0 hz1 hz2 rfl (by omega) rfl B A n c (gCells l) rfl HR.out H1.out (by simp only [maxLen]; omega) (by omega) ?_)
  intro v1 w1 hO1 hb1 hsz1
  have HO1 := hide_ (show Owns w1 w.heap.size [⟨68, 2, v1, n + 0, gCells (l ++ marksG 0)⟩] by
    rw [show marksG 0 = [] from rfl, List.append_nil, Nat.add_zero]
    simpa using hO1)
  have HB1 := hide_ hb1
  clear hO1 hb1 hsz1 HO0
  go_wp2
  go_loopw [3, 4] (fun v i wr => ∃ j : Nat, j ≤ 64 ∧ i = .int .i64 j ∧ Hid (Owns wr w.heap.size [⟨68, 2, v, n + j, gCells (l ++ marksG j)⟩]) ∧ Hid (Below w.heap.size w wr)) (fun _ i _ => 64 - (intOf i).toNat)
  case atStart => exact ⟨0, by omega, rfl, HO1, HB1⟩
  case round =>
    clear HO1 HB1
    obtain ⟨j, hj, rfl, HO, HB⟩ := hrel
    obtain ⟨A1, c1, hv, _, _⟩ := ownsRow_slice (HO.out.at_ (i := 0) rfl)
    dsimp only at hv
    subst hv
    by_cases hlt : j < 64
    · have wr1 : IntKind.u32.wrap (7000000 + (j : Int)) = 7000000 + (j : Int) := IntWalk.u32_in _ (by omega)
      have wr2 : IntKind.i64.wrap (7000000 + (j : Int)) = 7000000 + (j : Int) := IntWalk.i64_in _ (by omega)
      have NEXT := hide_ (show gCells (l ++ marksG (j + 1)) = gCells (l ++ marksG j) ++ [.int .u32 (7000000 + (j : Int)), .int .i64 (-7)] by rw [marksG_succ, ← List.append_assoc, gCells_snoc])
      go_wp2_with (at_builtin; refine wpList_append_owns _ rfl (.tmp 12) (.tmp 17) 22 rfl w.heap.size _ 0 68 2 (.slice A1 (n + j) c1) (n + j) (gCells (l ++ marksG j)) rfl (HO.out.alloc _) (by have := HB.out.size; simp; omega) i0 _ 16 Try.underlying22 hi0 hz0 hz1 hz2 rfl (by omega) rfl _ _ 1 1 [.int .u32 (7000000 + (j : Int)), .int .i64 (-7)] rfl (reads_new wr 68 2 1 [.int .u32 (7000000 + (j : Int)), .int .i64 (-7)] rfl) (by simp [Value.oneCell']) (by simp only [maxLen]; omega) (by omega) ?_)
      intro v2 w2 hO2 hb2 hsz2
      have HO2 := hide_ hO2
      have HB2 := hide_ ((HB.out.alloc HB.out.size _).trans hb2)
      clear hO2 hb2 hsz2
      go_wp2
      go_roundw
      case rel => exact ⟨j + 1, by omega, by go_num, hide_ (by rw [NEXT.out]; exact HO2.out), HB2⟩
      case measure => simp [intOf]; omega
    · obtain rfl : j = 64 := by omega
      go_wp2
      go_ret
      exact ⟨_, rfl, HO.out.at_ (i := 0) rfl, HB.out⟩
set_option maxHeartbeats 2000000 in
theorem KeptGrants_any (A A' : Option Addr) (n c c' B : Nat) (l : List (Int × Int)) (w : World) (hn : n ≤ 140737488351232) (hcc : n + 64 ≤ c) (ha : GReads w B A (n + 64) (l ++ marksG 64)) (hb : GReads w B A' n l) (hB : B ≤ w.heap.size) :
    Calls Try.prog 12 #[.slice A (n + 64) c, .slice A' n c'] w fun e w' => e = .returned (.bool true) ∧ Below w.heap.size w w' := by
  have h0 : (((n : Int) + 64) != ((n : Int) + 64)) = false := by simp
  have hl := hb.1
  have HSM := hide_ (SameGrants_any A A' n c n c' l l B w ⟨hl, fun h => by
    obtain ⟨ad, e, hb2, hc⟩ := ha.2 (by omega)
    exact ⟨ad, e, hb2, fun j x a hx => hc j x a (by rw [List.getElem?_append_left (List.getElem?_eq_some_iff.1 hx).1]; exact hx)⟩⟩ hb hB hn hn)
  have HL := hide_ hl
  have HA := hide_ ha
  have HBB := hide_ hB
  clear ha hb hB hl
  go_enter Try.func12, Try.ntmps12
  go_wp2
  go_loopw [5] (fun i wr => ∃ j : Nat, j ≤ 64 ∧ i = .int .i64 j ∧ wr = w) (fun i _ => 64 - (intOf i).toNat)
  case atStart => exact ⟨0, by omega, rfl, rfl⟩
  case round =>
    obtain ⟨j, hj, rfl, hw⟩ := hrel
    subst hw
    by_cases hlt : j < 64
    · obtain ⟨ad, rfl, hbk, hc⟩ := HA.out.2 (by omega)
      obtain ⟨q0, q1⟩ := hc (n + j) _ _ (by rw [List.getElem?_append_right (by rw [HL.out]; omega), HL.out, show n + j - n = j by omega, marksG_get hlt])
      have hbs : (ad.add ((n + j) * 2)).block < wr.heap.size := by rw [block_of_add]; have := HBB.out; omega
      have s1 : IntKind.i64.wrap ((n : Int) + (j : Int)) = (n : Int) + (j : Int) := IntWalk.i64_in _ (by omega)
      have s2 : (0 : Int) ≤ (n : Int) + (j : Int) := by omega
      have s3 : ((n : Int) + (j : Int)).toNat = n + j := by omega
      have s4 : (n : Int) + (j : Int) < (n : Int) + 64 := by omega
      have wr1 : IntKind.u32.wrap (7000000 + (j : Int)) = 7000000 + (j : Int) := IntWalk.u32_in _ (by omega)
      have wr2 : IntKind.i64.wrap (7000000 + (j : Int)) = 7000000 + (j : Int) := IntWalk.i64_in _ (by omega)
      have hq := fun w => gr_eq w (7000000 + (j : Int)) (-7)
      clear hc hbk
      go_wp2
      go_roundw
      case rel => exact ⟨j + 1, by omega, by go_num, by first | trivial | rfl⟩
      case measure => simp [intOf]; omega
    · obtain rfl : j = 64 := by omega
      have hs : n ≤ c := by omega
      obtain ⟨ad, rfl, _, _⟩ := HA.out.2 (by omega)
      go_wp2_with fail
      refine HSM.out.mono ?_
      rintro e w2 ⟨rfl, nq, rfl⟩
      go_wp2
      go_ret
      exact ⟨by simp, below_draws2 (Below.refl _ _) nq⟩
def ovG (i : Nat) : Int × Int := (9000000 + (i : Int), 3)
set_option maxHeartbeats 2000000 in
theorem OverGrants_any (g n c B : Nat) (l : List (Int × Int)) (w : World) (hn : n ≤ 140737488355264) (hl : l.length = n) (hO : Owns w B [⟨68, 2, .slice (some ⟨g, 0, none⟩) n c, n, gCells l⟩]) (hB : B ≤ w.heap.size) :
    Calls Try.prog 13 #[.slice (some ⟨g, 0, none⟩) n c] w fun e w' => e = .returned (.tuple #[]) ∧ Below B w w' ∧ w.grownBy w' (some g) := by
  have HO := hide_ hO
  have HL := hide_ hl
  clear hO hl
  go_enter Try.func13, Try.ntmps13
  go_wp2
  go_loopw [2] (fun i wr => ∃ (j : Nat) (X : List (Int × Int)), j ≤ n ∧ i = .int .i64 j ∧ X.length = n ∧ Hid (Owns wr B [⟨68, 2, .slice (some ⟨g, 0, none⟩) n c, n, gCells X⟩]) ∧ Hid (Below B w wr) ∧ Hid (w.grownBy wr (some g))) (fun i _ => n - (intOf i).toNat)
  case atStart => exact ⟨0, l, Nat.zero_le _, rfl, HL.out, HO, hide_ (Below.refl _ _), hide_ (grown_of_below (Below.refl _ _))⟩
  case round =>
    clear HO HL
    obtain ⟨j, X, hj, rfl, hX, HO, HB, HGR⟩ := hrel
    by_cases hlt : j < n
    · obtain ⟨⟨x, a⟩, hx⟩ : ∃ t, X[j]? = some t := ⟨_, List.getElem?_eq_getElem (by omega)⟩
      obtain ⟨g0, g1⟩ := gCells_get X hx
      have x0 := HO.out.cell (i := 0) rfl g0
      have x1 := HO.out.cell (i := 0) rfl g1
      have f0 := HO.out.frozen (i := 0) rfl (j * 2)
      have f1 := HO.out.frozen (i := 0) rfl (j * 2 + 1)
      have hgb := HO.out.base (i := 0) rfl
      have hg2 := hgb.2
      have HGB := hide_ hgb.1
      have hst1 := HO.out.store (i := 0) rfl (j := j * 2) (by rw [gCells_len]; omega) (.int .u32 (IntKind.u32.wrap (IntKind.i64.wrap (9000000 + (j : Int)))))
      have hst2 := hst1.store (i := 0) rfl (j := j * 2 + 1) (by rw [List.length_set, gCells_len]; omega) (.int .i64 3)
      obtain ⟨Y, hY, hYl⟩ : ∃ Y : List (Int × Int), gCells Y = ((gCells X).set (j * 2) (.int .u32 (IntKind.u32.wrap (IntKind.i64.wrap (9000000 + (j : Int)))))).set (j * 2 + 1) (.int .i64 3) ∧ Y.length = n := by
        refine ⟨X.set j (IntKind.u32.wrap (IntKind.i64.wrap (9000000 + (j : Int))), 3), ?_, by rw [List.length_set]; exact hX⟩
        exact (gCells_set X j (IntKind.u32.wrap (IntKind.i64.wrap (9000000 + (j : Int))), 3) (by omega)).symm
      have HS := hide_ (show Owns ((wr.setCell ⟨g, j * 2, none⟩ (.int .u32 (IntKind.u32.wrap (IntKind.i64.wrap (9000000 + (j : Int)))))).setCell ⟨g, j * 2 + 1, none⟩ (.int .i64 3)) B [⟨68, 2, .slice (some ⟨g, 0, none⟩) n c, n, gCells Y⟩] by rw [hY]; exact hst2)
      have HB2 := hide_ ((HB.out.setCell (p := ⟨g, j * 2, none⟩) hgb.1 (.int .u32 (IntKind.u32.wrap (IntKind.i64.wrap (9000000 + (j : Int)))))).setCell (p := ⟨g, j * 2 + 1, none⟩) hgb.1 (.int .i64 3))
      have HGR2 := hide_ (grown_set (grown_set HGR.out (j * 2) (.int .u32 (IntKind.u32.wrap (IntKind.i64.wrap (9000000 + (j : Int)))))) (j * 2 + 1) (.int .i64 3))
      have wr2 : IntKind.i64.wrap (9000000 + (j : Int)) = 9000000 + (j : Int) := IntWalk.i64_in _ (by omega)
      rw [wr2] at HS HB2 HGR2
      have HYL := hide_ hYl
      obtain ⟨K, hK⟩ : ∃ K, K = IntKind.u32.wrap (9000000 + (j : Int)) := ⟨_, rfl⟩
      rw [← hK] at HS HB2 HGR2
      have hK' := hK.symm
      clear hst1 hst2 hY hYl hx g0 g1 hgb hK HO HB HGR hX
      go_wp2
      go_roundw
      case rel => exact ⟨j + 1, Y, by omega, by go_num, HYL.out, HS, HB2, HGR2⟩
      case measure => simp [intOf]; omega
    · obtain rfl : j = n := by omega
      go_wp2
      go_end0
      exact ⟨rfl, HB.out, HGR.out⟩
end Go.Proofs.Ytcfpclhoockcfaa
