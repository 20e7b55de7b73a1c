/-
  The walk of playpenkit.KeptReply, of a reply that was lent and is as it was.
-/
import Derived.Test.YtgppbdcnpailaaaReply
namespace Go.Proofs.Ytgppbdcnpailaaa
open Go.RowKit

theorem below_draws {B : Nat} {a w : World} (h : Below B a w) (k : Nat) : Below B a (w.drewN k) := by
  induction k with
  | zero => exact h
  | succ k ih => exact ih.drew
theorem Reads.pre {w : World} {B n m : Nat} {A : Option Addr} {xs ys : List Value} (h : Reads w B 1 A (n + m) (xs ++ ys)) (hx : xs.length = n) : Reads w B 1 A n xs := by
  refine ⟨by omega, fun hn => ?_⟩
  obtain ⟨ad, e, hb, hc⟩ := h.2 (by omega)
  exact ⟨ad, e, hb, fun j u hu => hc j u (by rw [List.getElem?_append_left (List.getElem?_eq_some_iff.1 hu).1]; exact hu)⟩
theorem wCells_len (ws : Nat → Wr) (vs : Nat → Value) (k : Nat) : (wCells ws vs k).length = k * 2 := by
  induction k with
  | zero => rfl
  | succ k ih => rw [wCells_succ, List.length_append, ih]; simp; omega
theorem wCells_get (ws : Nat → Wr) (vs : Nat → Value) (ex : List Value) {n j : Nat} (h : j < n) :
    (wCells ws vs n ++ ex)[j * 2]? = some (.int .u32 (ws j).at_) ∧ (wCells ws vs n ++ ex)[j * 2 + 1]? = some (cutV (vs j) (ws j).n) := by
  induction n generalizing ex with
  | zero => omega
  | succ n ih =>
    rw [wCells_succ, List.append_assoc]
    by_cases e : j = n
    · subst e
      have hl := wCells_len ws vs j
      refine ⟨?_, ?_⟩
      · rw [List.getElem?_append_right (by omega), hl]; simp
      · rw [List.getElem?_append_right (by omega), hl, show j * 2 + 1 - j * 2 = 1 by omega]; simp
    · exact ih _ (by omega)
theorem tails_get (xs : List Value) {n i : Nat} (hx : xs.length = n * 2) (hi : i < 4) :
    (xs ++ tails 4)[(n + i) * 2]? = some (.int .u32 (77 + (i : Int))) ∧ (xs ++ tails 4)[(n + i) * 2 + 1]? = some (.slice none 0 0) := by
  rw [List.getElem?_append_right (by omega), List.getElem?_append_right (by omega), show (n + i) * 2 - xs.length = i * 2 by omega, show (n + i) * 2 + 1 - xs.length = i * 2 + 1 by omega]
  match i, hi with
  | 0, _ => exact ⟨rfl, rfl⟩
  | 1, _ => exact ⟨rfl, rfl⟩
  | 2, _ => exact ⟨rfl, rfl⟩
  | 3, _ => exact ⟨rfl, rfl⟩
noncomputable def keptRows (b : Nat) (v : Int) (A : Option Addr) (n c : Nat) (ws : Nat → Wr) (zs : Nat → List Int) (vs : Nat → Value) (Af : Option Addr) (cf : Nat) (Aw : Option Addr) (cw : Nat) : List Ro :=
  [⟨32, 1, .slice (some ⟨b, 0, none⟩) 3 3, 3, [.int .u32 v, .slice Aw n cw, .slice Af n cf]⟩,
   ⟨29, 1, .slice (some ⟨b + 1, 0, none⟩) 2 2, 2, [.int .u32 v, .slice A n c]⟩,
   ⟨46, 1, .slice Af n cf, n, (List.range n).map vs⟩,
   ⟨53, 2, .slice Aw (n + 4) cw, n + 4, wCells ws vs n ++ tails 4⟩] ++ rowsF n (lentRow ws zs vs)
theorem keptRows_at {b : Nat} {v : Int} {A : Option Addr} {n c : Nat} {ws : Nat → Wr} {zs : Nat → List Int} {vs : Nat → Value} {Af : Option Addr} {cf : Nat} {Aw : Option Addr} {cw j : Nat} (hj : j < n) :
    (keptRows b v A n c ws zs vs Af cf Aw cw)[4 + j]? = some (lentRow ws zs vs j) := by
  unfold keptRows
  rw [List.getElem?_append_right (by simp), show 4 + j - _ = j from by simp]
  simp [rowsF, hj]
/-- what the walk asks of place j -/
theorem kept_place {w : World} {B B' b : Nat} {v : Int} {A : Option Addr} {n c : Nat} {ws : Nat → Wr} {zs : Nat → List Int} {vs : Nat → Value} {Af : Option Addr} {cf : Nat} {Aw : Option Addr} {cw j : Nat}
    (hO : Owns w B (keptRows b v A n c ws zs vs Af cf Aw cw)) (hj : j < n) (hz : Reads w B' 1 (ws j).A (ws j).n (u8s (zs j))) (hB' : B' ≤ w.heap.size) :
    ∃ gw gf A5 c5, Aw = some ⟨gw, 0, none⟩ ∧ Af = some ⟨gf, 0, none⟩ ∧ w.cell? ⟨gw, j * 2, none⟩ = some (.int .u32 (ws j).at_) ∧ w.cell? ⟨gw, j * 2 + 1, none⟩ = some (.slice A5 (ws j).n c5) ∧
      w.cell? ⟨gf, j, none⟩ = some (.slice A5 ((ws j).n + 64) c5) ∧ Reads w w.heap.size 1 A5 (ws j).n (u8s (zs j)) ∧ Reads w w.heap.size 1 A5 ((ws j).n + 64) (u8s (zs j ++ marks8 0 0 64)) ∧
      Reads w w.heap.size 1 (ws j).A (ws j).n (u8s (zs j)) := by
  obtain ⟨gf, cf', hf⟩ := ownsRow_some (hO.at_ (i := 2) rfl) (show 0 < n by omega)
  obtain ⟨gw, cw', hw⟩ := ownsRow_some (hO.at_ (i := 3) rfl) (show 0 < n + 4 by omega)
  injection hf with hf1 hf2 hf3
  injection hw with hw1 hw2 hw3
  subst hf1 hw1
  have hrow := hO.at_ (keptRows_at (b := b) (v := v) (A := A) (c := c) (ws := ws) (zs := zs) (vs := vs) (Af := some ⟨gf, 0, none⟩) (cf := cf) (Aw := some ⟨gw, 0, none⟩) (cw := cw) hj)
  obtain ⟨A5, c5, h5, _, _⟩ := ownsRow_slice hrow
  have h6 : vs j = .slice A5 ((ws j).n + 64) c5 := h5
  obtain ⟨g1, g2⟩ := wCells_get ws vs (tails 4) hj
  rw [h6] at g2
  have hrd : Reads w w.heap.size 1 A5 ((ws j).n + 64) (u8s (zs j ++ marks8 0 0 64)) := by
    unfold lentRow at hrow
    rw [h6] at hrow
    exact Reads.of_own hrow
  refine ⟨gw, gf, A5, c5, rfl, rfl, hO.cell (i := 3) rfl g1, hO.cell (i := 3) rfl g2, hO.cell (i := 2) rfl (u := .slice A5 ((ws j).n + 64) c5) (by rw [← h6]; simp [hj]), ?_, hrd, hz.more hB'⟩
  rw [u8s_app] at hrd
  exact hrd.pre (by have := hz.1; simpa using this)

set_option maxRecDepth 100000 in
set_option maxHeartbeats 1000000 in
theorem KeptReply_any (v : Int) (A : Option Addr) (n c : Nat) (ws : Nat → Wr) (zs : Nat → List Int) (vs : Nat → Value) (Af : Option Addr) (cf : Nat) (Aw : Option Addr) (cw B B' : Nat) (w : World)
    (hO0 : Owns w B ([⟨46, 1, .slice Af n cf, n, (List.range n).map vs⟩, ⟨53, 2, .slice Aw (n + 4) cw, n + 4, wCells ws vs n ++ tails 4⟩] ++ rowsF n (lentRow ws zs vs))) (hB : B ≤ w.heap.size)
    (h : WReads w B' A n ws) (hB' : B' ≤ w.heap.size) (hn : n * 32 ≤ 140737488351232) (hcw : n + 4 ≤ cw)
    (hz : ∀ j, j < n → Reads w B' 1 (ws j).A (ws j).n (u8s (zs j)) ∧ (ws j).n ≤ 140737488351232 ∧ (ws j).n ≤ (ws j).c) :
    Calls Try.prog 25 #[.agg #[.int .u32 v, .slice Aw n cw, .slice Af n cf], .agg #[.int .u32 v, .slice A n c]] w fun e w' => e = .returned (.bool true) ∧ Below w.heap.size w w' := by
  have h0O : Owns ((w.alloc (.cells #[.int .u32 v, .slice Aw n cw, .slice Af n cf] 32)).alloc (.cells #[.int .u32 v, .slice A n c] 29)) B (keptRows w.heap.size v A n c ws zs vs Af cf Aw cw) := by
    have h1 := hO0.box 32 #[.int .u32 v, .slice Aw n cw, .slice Af n cf] hB (show 3 ≤ maxLen by unfold maxLen; decide)
    have h2 := h1.box 29 #[.int .u32 v, .slice A n c] (by simp; omega) (show 2 ≤ maxLen by unfold maxLen; decide)
    refine h2.swap ?_
    simp only [World.size_alloc, keptRows]
    exact (List.perm_append_comm (l₂ := [_])).trans (List.Perm.trans (List.Perm.cons _ (List.perm_append_comm (l₂ := [_]))) (List.Perm.swap _ _ _))
  have h0B : Below w.heap.size w ((w.alloc (.cells #[.int .u32 v, .slice Aw n cw, .slice Af n cf] 32)).alloc (.cells #[.int .u32 v, .slice A n c] 29)) := ((Below.refl _ _).alloc (Nat.le_refl _) _).alloc (by simp) _
  have h1O := hO0
  have HO := hide_ h0O
  have HB0 := hide_ h0B
  have HZ := hide_ hz
  have w0 : IntKind.i64.wrap ((n : Int) + 4) = (n : Int) + 4 := IntWalk.i64_in _ (by omega)
  have w1 : (0 : Int) ≤ (n : Int) + 4 := by omega
  have w2 : (n : Int) + 4 ≤ (cw : Int) := by omega
  have w3 : ((n : Int) + 4).toNat = n + 4 := by omega
  clear h0O h0B hz hO0 h1O
  go_enter Try.func25, Try.ntmps25
  go_wp2
  go_loopw [7] (fun i wr => ∃ k : Nat, k ≤ n ∧ i = .int .i64 k ∧ Owns wr B (keptRows w.heap.size v A n c ws zs vs Af cf Aw cw) ∧ Below w.heap.size w wr) (fun i _ => n - (intOf i).toNat)
  case atStart => exact ⟨0, Nat.zero_le _, rfl, HO.out, HB0.out⟩
  case round =>
    obtain ⟨k, hk, rfl, hO, hbl⟩ := hrel
    have hsz := hbl.size
    by_cases hlt : k < n
    · have x1 : wr.cell? ⟨w.heap.size, 1, none⟩ = some (.slice Aw n cw) := hO.cell (i := 0) rfl rfl
      have x2 : wr.cell? ⟨w.heap.size, 2, none⟩ = some (.slice Af n cf) := hO.cell (i := 0) rfl rfl
      have y1 : wr.cell? ⟨w.heap.size + 1, 1, none⟩ = some (.slice A n c) := hO.cell (i := 1) rfl rfl
      have y2 : w.heap.size + 1 < wr.heap.size := (hO.base (i := 1) rfl).2
      obtain ⟨hzk, hn5, _⟩ := HZ.out k hlt
      obtain ⟨gw, gf, A5, c5, rfl, rfl, q1, q2, q3, r1, r2, r3⟩ := kept_place hO hlt (hzk.below (hbl.mono hB')) (by omega)
      have b3 : gw < wr.heap.size := (hO.base (i := 3) rfl).2
      have b4 : gf < wr.heap.size := (hO.base (i := 2) rfl).2
      obtain ⟨ad, rfl, hb, hc0, hc1⟩ := (h.below (hbl.mono hB')).at_ hlt
      have hb' : (ad.add (k * 2)).block < wr.heap.size := by omega
      have S1 := hide_ (fun N : Nat => SameBytes_any A5 (ws k).A (ws k).n c5 (ws k).n (ws k).c (zs k) (zs k) wr.heap.size (wr.drewN N) r1 r3 (by unfold maxLen; omega) (by unfold maxLen; omega))
      have S2 := hide_ (fun N : Nat => KeptBytes_any A5 (ws k).A ((ws k).n + 64) c5 (ws k).n (ws k).c (zs k ++ marks8 0 0 64) (zs k) wr.heap.size (wr.drewN N) r2 r3 (by unfold maxLen; omega) (by unfold maxLen; omega))
      simp only [decide_true] at S1 S2
      have d1 : ((ws k).at_ != (ws k).at_) = false := by simp
      have HOO := hide_ hO
      have HBL := hide_ hbl
      clear r1 r2 r3 hzk hO hbl hb hsz
      go_wp2
      go_quiet (first
        | (go_at_call 32; exact Calls.quiet_of (S1.out _))
        | (go_at_call 71; exact Calls.quiet_of (S2.out _)))
      go_wp2
      go_roundw
      case rel => exact ⟨k + 1, by omega, by go_num, HOO.out.drewN nq, below_draws HBL.out nq⟩
      case measure => simp [intOf]; omega
    · obtain rfl : k = n := by omega
      go_wp2
      go_loopw [8] (fun i wr => ∃ i' : Nat, i' ≤ 4 ∧ i = .int .i64 i' ∧ Owns wr B (keptRows w.heap.size v A k c ws zs vs Af cf Aw cw) ∧ Below w.heap.size w wr) (fun i _ => 4 - (intOf i).toNat)
      case atStart => exact ⟨0, Nat.zero_le _, rfl, hO, hbl⟩
      case round =>
        clear hO hbl hsz
        obtain ⟨i, hi, rfl, hO, hbl⟩ := hrel
        by_cases hlt2 : i < 4
        · obtain ⟨gw, cw', hw⟩ := ownsRow_some (hO.at_ (i := 3) rfl) (show 0 < k + 4 by omega)
          injection hw with hw1 hw2 hw3
          subst hw1
          clear hw2 hw3
          obtain ⟨t1, t2⟩ := tails_get (wCells ws vs k) (wCells_len ws vs k) hlt2
          have q1 : wr.cell? ⟨gw, (k + i) * 2, none⟩ = some (.int .u32 (77 + (i : Int))) := hO.cell (i := 3) rfl t1
          have q2 : wr.cell? ⟨gw, (k + i) * 2 + 1, none⟩ = some (.slice none 0 0) := hO.cell (i := 3) rfl t2
          have s1 : IntKind.i64.wrap ((k : Int) + (i : Int)) = (k : Int) + (i : Int) := IntWalk.i64_in _ (by omega)
          have s2 : (0 : Int) ≤ (k : Int) + (i : Int) := by omega
          have s3 : ((k : Int) + (i : Int)).toNat = k + i := by omega
          have s4 : (k : Int) + (i : Int) < (k : Int) + 4 := by omega
          have d1 : ((77 : Int) + (i : Int) != 77 + (i : Int)) = false := by simp
          have HOO := hide_ hO
          have HBL := hide_ hbl
          clear t1 t2 hO hbl
          go_wp2
          go_roundw
          case rel => exact ⟨i + 1, by omega, by go_num, HOO.out, HBL.out⟩
          case measure => simp [intOf]; omega
        · obtain rfl : i = 4 := by omega
          go_wp2
          go_ret
          exact ⟨rfl, hbl⟩
end Go.Proofs.Ytgppbdcnpailaaa
