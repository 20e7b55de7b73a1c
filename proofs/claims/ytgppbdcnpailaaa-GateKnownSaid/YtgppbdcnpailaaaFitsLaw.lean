/-
  The walk of the statement GateFits.
-/
import Derived.Test.YtgppbdcnpailaaaKept
import Derived.Test.YtgppbdcnpailaaaSee
namespace Go.Proofs.Ytgppbdcnpailaaa
open Go.RowKit

def wsL (ws : Nat → Wr) (vs : Nat → Value) (j : Nat) : Wr := match vs j with
  | .slice A _ c => ⟨(ws j).at_, A, (ws j).n, c⟩
  | _ => ws j
theorem wsL_n (ws : Nat → Wr) (vs : Nat → Value) (j : Nat) : (wsL ws vs j).n = (ws j).n := by unfold wsL; split <;> rfl
theorem fitsN_lent (n : Nat) (ws : Nat → Wr) (vs : Nat → Value) (k : Nat) : fitsN n (wsL ws vs) k = fitsN n ws k := by
  unfold fitsN
  simp only [wsL_n]
theorem lent_wreads {w : World} {B n cf cw : Nat} {Af Aw : Option Addr} {ws : Nat → Wr} {zs : Nat → List Int} {vs : Nat → Value} {ex : List Ro}
    (hO : Owns w B ([⟨46, 1, .slice Af n cf, n, (List.range n).map vs⟩, ⟨53, 2, .slice Aw (n + 4) cw, n + 4, wCells ws vs n ++ tails 4⟩] ++ rowsF n (lentRow ws zs vs) ++ ex)) : WReads w w.heap.size Aw n (wsL ws vs) := by
  intro hn
  obtain ⟨gw, cw', hw⟩ := ownsRow_some (hO.at_ (i := 1) rfl) (show 0 < n + 4 by omega)
  injection hw with hw1 hw2 hw3
  subst hw1
  refine ⟨_, rfl, (hO.base (i := 1) rfl).2, fun j hj => ?_⟩
  have e1 : (⟨gw, 0, none⟩ : Addr).add (j * 2) = ⟨gw, j * 2, none⟩ := by
    unfold Addr.add
    split
    · rename_i h0
      rw [h0]
    · simp
  obtain ⟨g1, g2⟩ := wCells_get ws vs (tails 4) hj
  have hrow : ([⟨46, 1, .slice Af n cf, n, (List.range n).map vs⟩, ⟨53, 2, .slice (some ⟨gw, 0, none⟩) (n + 4) cw, n + 4, wCells ws vs n ++ tails 4⟩] ++ rowsF n (lentRow ws zs vs) ++ ex)[2 + j]? = some (lentRow ws zs vs j) := by
    rw [List.getElem?_append_left (by simp [rowsF]; omega), List.getElem?_append_right (by simp), show 2 + j - _ = j from by simp]
    simp [rowsF, hj]
  obtain ⟨A5, c5, h5, _, _⟩ := ownsRow_slice (hO.at_ hrow)
  have h6 : vs j = .slice A5 ((ws j).n + 64) c5 := h5
  have h7 : wsL ws vs j = ⟨(ws j).at_, A5, (ws j).n, c5⟩ := by unfold wsL; rw [h6]
  rw [h6] at g2
  rw [e1, h7]
  exact ⟨hO.cell (i := 1) rfl g1, hO.cell (i := 1) rfl g2⟩

set_option maxRecDepth 100000 in
set_option maxHeartbeats 1000000 in
theorem GateFits_walk (v : Int) (A : Option Addr) (n c : Nat) (ws : Nat → Wr) (zs : Nat → List Int) (w : World) (h : WReads w w.heap.size A n ws) (hn : n * 32 ≤ 140737488351232)
    (hz : ∀ j, j < n → Reads w w.heap.size 1 (ws j).A (ws j).n (u8s (zs j)) ∧ (ws j).n ≤ 140737488351232 ∧ (ws j).n ≤ (ws j).c) :
    Calls Try.prog 6 #[.agg #[.int .u32 v, .slice A n c]] w fun e w' => e = .returned (.bool true) ∧ Below w.heap.size w w' := by
  have hb0 : Below w.heap.size w (w.alloc (.cells #[.int .u32 v, .slice A n c] 29)) := (Below.refl _ _).alloc (Nat.le_refl _) _
  have hl := hide_ (LentReply_any v A n c ws zs (w.alloc (.cells #[.int .u32 v, .slice A n c] 29)) ((h.below hb0).more hb0.size) hn (fun j hj => ⟨((hz j hj).1.below hb0).more hb0.size, (hz j hj).2⟩))
  have k0 := (Blk.new w 29 #[.int .u32 v, .slice A n c])
  have HB0 := hide_ hb0
  have HZ := hide_ hz
  have HW := hide_ h
  clear hb0 hz h
  go_enter Try.func6, Try.ntmps6
  go_wp2_with (go_at_call 22; refine hl.out.mono ?_)
  rintro e w1 ⟨vs, Af, cf, Aw, cw, rfl, hcw, hO1, hb1⟩
  have hsz1 := hb1.size
  have hO2 := hO1.box 32 #[.int .u32 v, .slice Aw n cw, .slice Af n cf] hsz1 (show 3 ≤ maxLen by unfold maxLen; decide)
  have hB1 : Below w.heap.size w w1 := HB0.out.trans (hb1.mono HB0.out.size)
  have hB2 : Below w.heap.size w (w1.alloc (.cells #[.int .u32 v, .slice Aw n cw, .slice Af n cf] 32)) := hB1.alloc hB1.size _
  have hb2 : Below (w.alloc (.cells #[.int .u32 v, .slice A n c] 29)).heap.size (w.alloc (.cells #[.int .u32 v, .slice A n c] 29)) (w1.alloc (.cells #[.int .u32 v, .slice Aw n cw, .slice Af n cf] 32)) := hb1.alloc hsz1 _
  have k2 := k0.below hb2 (by simp)
  have x2 := Blk.new w1 32 #[.int .u32 v, .slice Aw n cw, .slice Af n cf]
  have HO2 := hide_ hO2
  have HB2 := hide_ hB2
  have hsz0 : w.heap.size + 1 ≤ w1.heap.size := by have := hb1.size; simpa using this
  clear hO1 hO2 hb1 hB1 hB2 hb2 k0 hsz1
  go_wp2
  obtain ⟨bx, hbx⟩ : ∃ bx, bx = w1.heap.size := ⟨_, rfl⟩
  rw [← hbx] at x2 hsz0 HO2 ⊢
  generalize w1.alloc (.cells #[.int .u32 v, .slice Aw n cw, .slice Af n cf] 32) = w2 at k2 x2 HO2 HB2 ⊢
  clear hbx
  have hBx : bx < w2.heap.size := x2.lt
  have hBk : w.heap.size < w2.heap.size := k2.lt
  have c0 := k2.cell 0
  have c1 := k2.cell 1
  have y0 := x2.cell 0
  have y1 := x2.cell 1
  have y2 := x2.cell 2
  simp only [List.getElem?_toArray, List.getElem?_cons_zero, List.getElem?_cons_succ] at c0 c1 y0 y1 y2
  have FF : Hid (∀ W, Below w2.heap.size w2 W → Calls Try.prog 23 #[.agg #[.int .u32 v, .slice Aw n cw]] W fun e w' => e = .returned (.bool (fitsN n ws n)) ∧ Below W.heap.size W w') := hide_ fun W hW => by
    have := gFits_any v Aw n cw w2.heap.size (wsL ws vs) W ((lent_wreads HO2.out).below hW) hW.size (by unfold maxLen; omega)
    rw [fitsN_lent] at this
    exact this
  have RR : Hid (∀ W, Below w2.heap.size w2 W → Calls Try.prog 24 #[.agg #[.int .u32 v, .slice A n c]] W fun e w' => e = .returned (.bool (fitsN n ws n)) ∧ Below W.heap.size W w') := hide_ fun W hW =>
    rFits_any v A n c w.heap.size ws W (HW.out.below (HB2.out.trans (hW.mono HB2.out.size))) (Nat.le_trans HB2.out.size hW.size) (by unfold maxLen; omega)
  have KK : Hid (∀ W, Below w2.heap.size w2 W → Calls Try.prog 25 #[.agg #[.int .u32 v, .slice Aw n cw, .slice Af n cf], .agg #[.int .u32 v, .slice A n c]] W fun e w' => e = .returned (.bool true) ∧ Below W.heap.size W w') := hide_ fun W hW =>
    KeptReply_any v A n c ws zs vs Af cf Aw cw _ w.heap.size W ((HO2.out.sub (List.sublist_append_left _ _)).below hW) (Nat.le_trans (by simp; omega) hW.size) (HW.out.below (HB2.out.trans (hW.mono HB2.out.size))) (Nat.le_trans HB2.out.size hW.size) hn hcw
      (fun j hj => ⟨(HZ.out j hj).1.below (HB2.out.trans (hW.mono HB2.out.size)), (HZ.out j hj).2⟩)
  have SS : Hid (∀ W W', Below w2.heap.size w2 W → Below W.heap.size W W' → W'.cell? ⟨w.heap.size, 0, none⟩ = some (.int .u32 v) ∧ W'.cell? ⟨w.heap.size, 1, none⟩ = some (.slice A n c) ∧ W'.cell? ⟨bx, 0, none⟩ = some (.int .u32 v) ∧
      W'.cell? ⟨bx, 1, none⟩ = some (.slice Aw n cw) ∧ W'.cell? ⟨bx, 2, none⟩ = some (.slice Af n cf) ∧ Below w2.heap.size w2 W') := hide_ fun W W' h1 h2 => by
    have h3 := h1.trans (h2.mono h1.size)
    exact ⟨(h3.cell hBk).trans c0, (h3.cell hBk).trans c1, (h3.cell hBx).trans y0, (h3.cell hBx).trans y1, (h3.cell hBx).trans y2, h3⟩
  have hst : w2.drew.cell? ⟨w.heap.size, 0, none⟩ = some (.int .u32 v) ∧ w2.drew.cell? ⟨w.heap.size, 1, none⟩ = some (.slice A n c) ∧ w2.drew.cell? ⟨bx, 0, none⟩ = some (.int .u32 v) ∧
      w2.drew.cell? ⟨bx, 1, none⟩ = some (.slice Aw n cw) ∧ w2.drew.cell? ⟨bx, 2, none⟩ = some (.slice Af n cf) ∧ Below w2.heap.size w2 w2.drew := ⟨c0, c1, y0, y1, y2, (Below.refl w2.heap.size w2).drew⟩
  have HST := hide_ hst
  clear hst
  go_region_held3 (fun W' => W'.cell? ⟨w.heap.size, 0, none⟩ = some (.int .u32 v) ∧ W'.cell? ⟨w.heap.size, 1, none⟩ = some (.slice A n c) ∧ W'.cell? ⟨bx, 0, none⟩ = some (.int .u32 v) ∧
      W'.cell? ⟨bx, 1, none⟩ = some (.slice Aw n cw) ∧ W'.cell? ⟨bx, 2, none⟩ = some (.slice Af n cf) ∧ Below w2.heap.size w2 W')
    (first | exact HST.out | (go_split_ands; exact SS.out _ _ (by assumption) hb9))
    ((first
      | (go_at_call 23; go_split_ands; refine (FF.out _ (by assumption)).mono ?_; rintro e w9 ⟨rfl, hb9⟩)
      | (go_at_call 24; go_split_ands; refine (RR.out _ (by assumption)).mono ?_; rintro e w9 ⟨rfl, hb9⟩)
      | (go_at_call 25; go_split_ands; refine (KK.out _ (by assumption)).mono ?_; rintro e w9 ⟨rfl, hb9⟩)))
  go_wp2
  go_ret
  go_split_ands
  have hfin : Below w2.heap.size w2 w9 := by assumption
  exact ⟨rfl, HB2.out.trans (hfin.mono HB2.out.size)⟩

/-! ### what the argument reads as -/
theorem reply_cells : Try.prog.cellsOf 29 = 2 := by kernel_rfl
theorem write_cells : Try.prog.cellsOf 53 = 2 := by kernel_rfl
theorem u32_cells : Try.prog.cellsOf 23 = 1 := by kernel_rfl
theorem u8_cells : Try.prog.cellsOf 5 = 1 := by kernel_rfl
theorem u8s_cells : Try.prog.cellsOf 46 = 1 := by kernel_rfl
theorem writes_cells : Try.prog.cellsOf 27 = 1 := by kernel_rfl
theorem write_bytes : Try.prog.bytesOf 53 = 32 := by kernel_rfl
theorem u8_bytes : Try.prog.bytesOf 5 = 1 := by kernel_rfl
theorem seen_write {H : Type} {enc : TypeId × Value → H} {w : World} {held : Bool} {cs : List Value} (h : Seen enc Try.prog w held 53 cs) :
    ∃ (x : Wr) (zs : List Int), cs = [.int .u32 x.at_, .slice x.A x.n x.c] ∧ (Lit.int .u32 x.at_).wf = true ∧ Reads w w.heap.size 1 x.A x.n (u8s zs) ∧ x.n ≤ x.c ∧ x.c ≤ 140737488351232 ∧ ∀ z ∈ zs, (Lit.int .u8 z).wf = true := by
  obtain ⟨hl, hf⟩ := seen_struct Try.underlying53 h
  rw [write_cells] at hl
  obtain ⟨x, y, rfl⟩ := two_of_len hl
  have f0 : Seen enc Try.prog w held 23 (([x, y].drop 0).take (Try.prog.cellsOf 23)) := hf 0 _ rfl
  have f1 : Seen enc Try.prog w held 46 (([x, y].drop 1).take (Try.prog.cellsOf 46)) := hf 1 _ rfl
  rw [u32_cells] at f0
  rw [u8s_cells] at f1
  obtain ⟨a, h0, hw⟩ := seen_int Try.underlying23 f0
  obtain ⟨A, n, c, xs, h1, h2, _, h3, h4, h5⟩ := seen_ints Try.underlying46 Try.underlying5 u8_cells f1
  injection h0 with h0
  injection h1 with h1
  subst h0 h1
  rw [u8_bytes] at h3
  exact ⟨⟨a, A, n, c⟩, xs, rfl, hw, h4, h2, by unfold reachBytes at h3; show c ≤ _; omega, h5⟩
theorem seen_writes {H : Type} {enc : TypeId × Value → H} {w : World} {held : Bool} {cs : List Value} (h : Seen enc Try.prog w held 27 cs) :
    ∃ (A : Option Addr) (n c : Nat) (ws : Nat → Wr) (zs : Nat → List Int), cs = [.slice A n c] ∧ n ≤ c ∧ c * 32 ≤ 140737488351232 ∧ WReads w w.heap.size A n ws ∧
      ∀ j, j < n → (Lit.int .u32 (ws j).at_).wf = true ∧ Reads w w.heap.size 1 (ws j).A (ws j).n (u8s (zs j)) ∧ (ws j).n ≤ (ws j).c ∧ (ws j).c ≤ 140737488351232 ∧ ∀ z ∈ zs j, (Lit.int .u8 z).wf = true := by
  obtain ⟨A, n, c, rfl, h1, _, h3, h4⟩ := seen_slice Try.underlying27 (by rw [write_cells]; decide) h
  rw [write_bytes] at h3
  have h3' : c * 32 ≤ 140737488351232 := h3
  rcases Nat.eq_zero_or_pos n with rfl | hn
  · exact ⟨A, 0, c, fun _ => ⟨0, none, 0, 0⟩, fun _ => [], rfl, h1, h3', fun h => absurd h (by omega), fun j hj => absurd hj (by omega)⟩
  · obtain ⟨ad, rfl, hb, hi⟩ := h4 hn
    have hv : ∀ i, i < n → ∃ x : Wr × List Int, (w.cell? (ad.add (i * 2)) = some (.int .u32 x.1.at_) ∧ w.cell? ⟨(ad.add (i * 2)).block, (ad.add (i * 2)).off + 1, none⟩ = some (.slice x.1.A x.1.n x.1.c)) ∧
        (Lit.int .u32 x.1.at_).wf = true ∧ Reads w w.heap.size 1 x.1.A x.1.n (u8s x.2) ∧ x.1.n ≤ x.1.c ∧ x.1.c ≤ 140737488351232 ∧ ∀ z ∈ x.2, (Lit.int .u8 z).wf = true := by
      intro i hlt
      obtain ⟨vs, _, hcell, hs⟩ := hi i hlt
      obtain ⟨x, zs, rfl, g1, g2, g3, g4, g5⟩ := seen_write hs
      rw [write_cells] at hcell
      have c0 := hcell 0 (by omega)
      have c1 := hcell 1 (by omega)
      have e0 : (ad.add (i * 2)).add 0 = ad.add (i * 2) := by simp [Addr.add]
      have e1 : (ad.add (i * 2)).add 1 = ⟨(ad.add (i * 2)).block, (ad.add (i * 2)).off + 1, none⟩ := by unfold Addr.add; simp
      rw [e0] at c0
      rw [e1] at c1
      exact ⟨(x, zs), ⟨c0, c1⟩, g1, g2, g3, g4, g5⟩
    haveI : Inhabited (Wr × List Int) := ⟨(⟨0, none, 0, 0⟩, [])⟩
    obtain ⟨f, hf⟩ := skolem_lt hv
    exact ⟨some ad, n, c, fun j => (f j).1, fun j => (f j).2, rfl, h1, h3', fun _ => ⟨ad, rfl, hb, fun j hj => (hf j hj).1⟩, fun j hj => (hf j hj).2⟩
set_option maxRecDepth 100000 in
theorem seen_reply {H : Type} {enc : TypeId × Value → H} {base : Nat} {w : World} {held : Bool} {v : Value} (hv : Value.okWide Try.prog w .any base 29 v) (h : Seen enc Try.prog w held 29 v.cells.toList) :
    ∃ (a : Int) (A : Option Addr) (n c : Nat) (ws : Nat → Wr) (zs : Nat → List Int), v = .agg #[.int .u32 a, .slice A n c] ∧ (Lit.int .u32 a).wf = true ∧ n ≤ c ∧ c * 32 ≤ 140737488351232 ∧ WReads w w.heap.size A n ws ∧
      ∀ j, j < n → (Lit.int .u32 (ws j).at_).wf = true ∧ Reads w w.heap.size 1 (ws j).A (ws j).n (u8s (zs j)) ∧ (ws j).n ≤ (ws j).c ∧ (ws j).c ≤ 140737488351232 ∧ ∀ z ∈ zs j, (Lit.int .u8 z).wf = true := by
  obtain ⟨l, rfl⟩ := okWide_struct Try.underlying29 hv
  obtain ⟨hl, hf⟩ := seen_struct Try.underlying29 h
  rw [reply_cells] at hl
  obtain ⟨x, y, rfl⟩ := two_of_len (show l.length = 2 by simpa [Value.cells] using hl)
  have f0 : Seen enc Try.prog w held 23 (([x, y].drop 0).take (Try.prog.cellsOf 23)) := hf 0 _ rfl
  have f1 : Seen enc Try.prog w held 27 (([x, y].drop 1).take (Try.prog.cellsOf 27)) := hf 1 _ rfl
  rw [u32_cells] at f0
  rw [writes_cells] at f1
  obtain ⟨a, h0, hw⟩ := seen_int Try.underlying23 f0
  obtain ⟨A, n, c, ws, zs, h1, g1, g2, g3, g4⟩ := seen_writes f1
  injection h0 with h0
  injection h1 with h1
  subst h0 h1
  exact ⟨a, A, n, c, ws, zs, rfl, hw, g1, g2, g3, g4⟩
set_option maxRecDepth 100000 in
theorem GateFits_raw {H : Type} {enc : TypeId × Value → H} {base : Nat} (v : Value) (w : World) (hv : Value.okWide Try.prog w .any base 29 v) (h : Seen enc Try.prog w true 29 v.cells.toList) :
    Calls Try.prog 6 #[v] w fun e w' => e = .returned (.bool true) ∧ Below w.heap.size w w' := by
  obtain ⟨a, A, n, c, ws, zs, rfl, _, g1, g2, g3, g4⟩ := seen_reply hv h
  clear hv h
  exact GateFits_walk a A n c ws zs w g3 (by omega) (fun j hj => ⟨(g4 j hj).2.1, by have := (g4 j hj).2.2; omega, (g4 j hj).2.2.1⟩)
end Go.Proofs.Ytgppbdcnpailaaa
