/-
  The world of GatePlays: Apply asked; what stays when the memory's bytes alone have changed.
-/
import Derived.Test.YtcfpclhoockcfaaM30
import Derived.Deep.Cut
import Derived.Deep.CutRange
import Derived.Deep.RegionLaw
import Derived.StillTailTactics
import Derived.Deep.RegionHeld3
namespace Go.Proofs.Ytcfpclhoockcfaa
open Go.RowKit Go.PlainAid Go.BigFrame
set_option linter.unusedVariables false
set_option linter.unusedSimpArgs false
set_option maxRecDepth 100000
theorem wsL_at (ws : Nat → Wr) (vs : Nat → Value) (j : Nat) : (wsL ws vs j).at_ = (ws j).at_ := by unfold wsL; split <;> rfl
theorem applyW_lent (N : Nat) (ws : Nat → Wr) (vs : Nat → Value) (zs : Nat → List Int) (xs : List Int) : ∀ k, applyW N (wsL ws vs) zs xs k = applyW N ws zs xs k
  | 0 => rfl
  | k + 1 => by rw [applyW, applyW, applyW_lent N ws vs zs xs k, wsL_at, wsL_n]
theorem fits_facts {n : Nat} {ws : Nat → Wr} (h : fitsN n ws n = true) : n ≤ 16 ∧ ∀ j, j < n → (ws j).n ≤ 256 := by
  unfold fitsN at h
  simp only [Bool.and_eq_true, decide_eq_true_eq, List.all_eq_true, List.mem_range] at h
  exact h
theorem lent_replyAt {w : World} {B d n cf cw : Nat} {Af Aw : Option Addr} {ws : Nat → Wr} {zs : Nat → List Int} {vs : Nat → Value}
    (hO : Owns w B ([⟨23, 1, .slice Af n cf, n, (List.range n).map vs⟩, ⟨104, 2, .slice Aw (n + 4) cw, n + 4, wCells ws vs n ++ tails 4⟩] ++ rowsF n (lentRow ws zs vs))) (hd : d < B)
    (hz : ∀ j, j < n → (0 ≤ (ws j).at_ ∧ (ws j).at_ < 4294967296) ∧ bytesOk (zs j) ∧ (u8s (zs j)).length = (ws j).n) : ReplyAt w d Aw n (wsL ws vs) zs := by
  refine ⟨lent_wreads (ex := []) (by rw [List.append_nil]; exact hO), fun ad e => ?_, fun j hj => ?_⟩
  · have h1 := (hO.at_ (i := 1) rfl)
    dsimp only at h1
    rcases h1.2 with ⟨h2, _⟩ | ⟨g, cap, cur, hv, hB, _⟩
    · injection h2 with h2; rw [h2] at e; cases e
    · injection hv with hv; rw [hv] at e; injection e with e; subst e; show g ≠ d; omega
  · have hrow : ([⟨23, 1, .slice Af n cf, n, (List.range n).map vs⟩, ⟨104, 2, .slice Aw (n + 4) cw, n + 4, wCells ws vs n ++ tails 4⟩] ++ rowsF n (lentRow ws zs vs))[2 + j]? = some (lentRow ws zs vs j) := by
      rw [List.getElem?_append_right (by simp), show 2 + j - _ = j from by simp]
      simp [rowsF, hj]
    have h1 := hO.at_ hrow
    obtain ⟨h5, h6, h7⟩ := hz j hj
    obtain ⟨A5, c5, h8, _, _⟩ := ownsRow_slice h1
    have h9 : vs j = .slice A5 ((ws j).n + 64) c5 := h8
    have h10 : wsL ws vs j = ⟨(ws j).at_, A5, (ws j).n, c5⟩ := by unfold wsL; rw [h9]
    have h11 : w.ownsRow B 5 1 (.slice A5 ((ws j).n + 64) c5) ((ws j).n + 64) (u8s (zs j ++ marks8 0 0 64)) := by rw [← h9]; exact h1
    rw [h10]
    refine ⟨h5, ?_, h6, fun ad e => ?_⟩
    · have h12 := Reads.of_own h11
      have e2 : u8s (zs j ++ marks8 0 0 64) = u8s (zs j) ++ u8s (marks8 0 0 64) := by simp [u8s]
      rw [e2] at h12
      exact Reads.pre h12 h7
    · rcases h11.2 with ⟨h2, _⟩ | ⟨g, cap, cur, hv, hB, _⟩
      · injection h2 with h2; dsimp only at e; rw [h2] at e; cases e
      · injection hv with hv; dsimp only at e; rw [hv] at e; injection e with e; subst e; show g ≠ d; omega
theorem Owns.hold {w w' : World} {B : Nat} {rs : List Ro} (h : Owns w B rs) (hb : ∀ k, B ≤ k → k < w.heap.size → w'.heap[k]? = w.heap[k]?) : Owns w' B rs :=
  ⟨fun r hr => by
    have h1 := h.1 r hr
    refine ⟨h1.1, ?_⟩
    rcases h1.2 with h2 | ⟨g, cap, cur, hv, hB, hg, rest⟩
    · exact .inl h2
    · exact .inr ⟨g, cap, cur, hv, hB, (hb g hB (Array.getElem?_eq_some_iff.1 hg).1).trans hg, rest⟩, h.2⟩
theorem Owns.low {w w' : World} {B N : Nat} {rs : List Ro} (h : Owns w B rs) (hN : ∀ r ∈ rs, ∀ k, r.v.ownBlock = some k → k < N) (hb : ∀ k, k < N → w'.heap[k]? = w.heap[k]?) : Owns w' B rs :=
  ⟨fun r hr => by
    have h1 := h.1 r hr
    refine ⟨h1.1, ?_⟩
    rcases h1.2 with h2 | ⟨g, cap, cur, hv, hB, hg, rest⟩
    · exact .inl h2
    · exact .inr ⟨g, cap, cur, hv, hB, (hb g (hN r hr g (by rw [hv]; rfl))).trans hg, rest⟩, h.2⟩
section
variable {F : Nat → Prop} {W W5 W6 W9 : World} {B q0 k : Nat} {st : GW} {ex : List Ro}
/-- the memory's bytes alone have changed, and then only what is newer -/
theorem GInv.laidLow (h : GInv F W B q0 k st ex) (hb : Below W.heap.size W W5) {ys : List Int} (hl : Laid W5 W6 st.g st.d 256 st.cM ys) (hk : ∀ k, k < W.heap.size → W9.heap[k]? = W6.heap[k]?) (hz : W6.heap.size ≤ W9.heap.size) :
    OwnsF F W5 W9 B (rowsGx q0 st ys ex) := by
  have h6 := (h.below hb).laid hl
  have hlow : ∀ r ∈ rowsGx q0 st ys ex, ∀ k, r.v.ownBlock = some k → k < W.heap.size := fun r hr k hk => by
    have hm : r ∈ (rowsG q0 st ex).set 7 ⟨5, 1, .slice (some ⟨st.d, 0, none⟩) 256 st.cM, 256, u8s ys⟩ := hr
    rcases mem_set_row hm with hm | rfl
    · exact (h.own.own.lt_ hm hk).2
    · injection hk with hk
      subst hk
      exact (h.own.base (i := 7) (g := st.d) (n := 256) (c := st.cM) rfl).2
  exact ⟨h6.own.low hlow hk, fun j hj => ⟨Nat.lt_of_lt_of_le (h6.old j hj).1 hz, (hk j (h.own.old j hj).1).trans (h6.old j hj).2⟩, h6.far⟩
theorem GInv.bytes (h : GInv F W B q0 k st ex) :
    Calls Try.prog 44 #[.pointer (some ⟨st.g, 0, none⟩)] W fun e W' => ∃ o co, e = .returned (.slice (some ⟨o, 0, none⟩) 256 co) ∧ W'.ownsRow W.heap.size 5 1 (.slice (some ⟨o, 0, none⟩) 256 co) 256 (u8s st.xs) ∧ Below W.heap.size W W' := by
  refine Bytes_any (B := B) (ex := headG q0 st ++ (st.told.map toldR ++ (st.words.map wordR ++ ex))) (c := st.cM) (d := st.d) (logs := false) (tv := st.lv) (ts := []) (h.own.own.swap ?_) ⟨8, by omega, rfl⟩
  unfold rowsG
  exact List.perm_append_comm_assoc _ _ _
theorem GInv.apply (h : GInv F W B q0 k st ex) {i : Nat} {x : GV} (hx : st.gs[i]? = some x) (v : Int) (A2 : Option Addr) (n2 c2 : Nat) (ws : Nat → Wr) (zs : Nat → List Int) (hr : ReplyAt W st.d A2 n2 ws zs) (hn2 : n2 ≤ maxLen) (ft : Bool) (hft : fitsN n2 ws n2 = ft) :
    Calls Try.prog 41 #[.pointer (some ⟨x.q, 0, none⟩), .pointer (some ⟨st.g, 0, none⟩), .agg #[.int .u32 v, .slice A2 n2 c2]] W fun e w' => ∃ z : Int, e = .returned (.int .i64 z) ∧ W.grownBy w' (some st.d) ∧
      (ft = true → z = 0 ∧ Laid W w' st.g st.d 256 st.cM (applyW 256 ws zs st.xs n2)) ∧ (ft = false → z = 5 ∧ Below W.heap.size W w') := by
  have hg := h.gok x (List.mem_of_getElem? hx)
  obtain ⟨D, hD, hga⟩ := hg.at_
  cases ft with
  | true =>
    refine (Apply_s x.q D v A2 n2 c2 ws zs hga h.mem hr hn2 hft).mono ?_
    rintro e w' ⟨rfl, hl⟩
    exact ⟨0, rfl, hl.2, fun _ => ⟨rfl, hl⟩, fun h => by cases h⟩
  | false =>
    refine (Apply_no x.q D v A2 n2 c2 ws hga h.mem hr.rd hn2 hft).mono ?_
    rintro e w' ⟨rfl, hb⟩
    exact ⟨5, rfl, grown_of_below hb, (fun h => by cases h), fun _ => ⟨rfl, hb⟩⟩
end
end Go.Proofs.Ytcfpclhoockcfaa
/-
  The world of GatePlays: the walk of Apply asked.
-/
namespace Go.Proofs.Ytcfpclhoockcfaa
open Go.RowKit Go.PlainAid Go.BigFrame
set_option linter.unusedVariables false
set_option linter.unusedSimpArgs false
set_option maxRecDepth 100000
section
variable {F : Nat → Prop} {W W' : World} {B q0 k : Nat} {st : GW} {ex : List Ro}
set_option maxHeartbeats 4000000 in
theorem applyAsked_any (h : GInv F W B q0 k st ex) (i : Nat) (hi : i < st.gs.length) (y : AskV) (hy : AskOk W B y) :
    Calls Try.prog 21 #[.pointer (some ⟨q0, 0, none⟩), .int .i64 i, .agg (askC y)] W fun e W' => e = .returned (.bool true) ∧ ∃ st', GInv F W' B q0 (k + 1) st' ex ∧ Below B W W' := by
  obtain ⟨x, hx⟩ : ∃ x, st.gs[i]? = some x := ⟨_, List.getElem?_eq_getElem hi⟩
  obtain ⟨W1, hW1⟩ : ∃ W1, W1 = W.alloc (.cells (askC y) 45) := ⟨_, rfl⟩
  have HW1 := hide_ (show Below W.heap.size W W1 by rw [hW1]; exact (Below.refl _ _).alloc (Nat.le_refl _) _)
  have HK0 := hide_ (show Blk W1 W.heap.size 45 (askC y) by rw [hW1]; exact Blk.new W _ _)
  have HI1 := hide_ (h.below HW1.out)
  have HY1 := hide_ (hy.below (HW1.out.mono h.base))
  have HBX := hide_ (fun (W2 : World) (hb : ∀ k, k < W1.heap.size → k ≠ st.d → W2.heap[k]? = W1.heap[k]?) => show (W2.cell? ⟨W.heap.size, 6, none⟩ = some (.int .u32 y.v) ∧ W2.cell? ⟨W.heap.size, 7, none⟩ = some (.slice y.WA y.wn y.wc)) ∧ W.heap.size < W2.heap.size from
    have hd := (h.own.base (i := 7) (g := st.d) (n := 256) (c := st.cM) rfl).2
    have k1 : Blk W2 W.heap.size 45 (askC y) := (hb W.heap.size HK0.out.lt (by omega)).trans HK0.out
    ⟨⟨k1.cell 6, k1.cell 7⟩, k1.lt⟩)
  have HGT := hide_ (fun W2 (h2 : GInv F W2 B q0 k st ex) => h2.gate hx)
  have HAP := hide_ (fun W2 (h2 : GInv F W2 B q0 k st ex) => h2.apply hx)
  have HBW := hide_ h.base
  have hil : (i : Int) < (st.gs.length : Int) := by omega
  obtain ⟨ft, hft⟩ : ∃ b, b = fitsN y.wn y.ws y.wn := ⟨_, rfl⟩
  have HFT := hide_ hft
  have HSD := hide_ (show st.d < W1.heap.size ∧ B ≤ st.d from ⟨(HI1.out.own.base (i := 7) (g := st.d) (n := 256) (c := st.cM) rfl).2, (HI1.out.own.base (i := 7) (g := st.d) (n := 256) (c := st.cM) rfl).1⟩)
  clear h hx hft hy
  unfold askC at hW1 ⊢
  obtain ⟨bg, cg, br, cr, eg, er, ⟨f0, f1, f2, f3⟩, ⟨z0, z1, z2⟩, _⟩ := HGT.out W1 HI1.out
  obtain ⟨⟨x6, x7⟩, z3⟩ := HBX.out W1 (fun _ _ _ => rfl)
  obtain ⟨gn, hgn⟩ : ∃ n, n = st.gs.length := ⟨_, rfl⟩
  rw [← hgn] at f0 f1 hil
  have HGN := hide_ hgn
  clear eg er hgn hi
  have HLR := hide_ (LentReply_any y.v y.WA y.wn y.wc y.ws y.zs W1 (HY1.out.wr.more HI1.out.base) HY1.out.wn (fun j hj => ⟨(HY1.out.wz j hj).2.2.1.more HI1.out.base, (HY1.out.wz j hj).2.2.2⟩))
  go_enter Try.func21, Try.ntmps21
  go_upto_region 1 with (fail)
  rw [← hW1]
  clear hW1
  go_wp2_with fail
  refine HLR.out.mono ?_
  rintro e W4 ⟨vs, Af, cf, Aw, cw, rfl, hcw, hO4, hb4⟩
  obtain ⟨W5, hW5⟩ : ∃ W5, W5 = W4.alloc (.cells #[.int .u32 y.v, .slice Aw y.wn cw, .slice Af y.wn cf] 81) := ⟨_, rfl⟩
  obtain ⟨gr, hgr⟩ : ∃ g, g = W4.heap.size := ⟨_, rfl⟩
  have HKR := hide_ (show Blk W5 gr 81 #[.int .u32 y.v, .slice Aw y.wn cw, .slice Af y.wn cf] by rw [hW5, hgr]; exact Blk.new W4 _ _)
  have HO5 := hide_ (show Owns W5 W1.heap.size _ by rw [hW5]; exact hO4.alloc _)
  have HB5 := hide_ (show Below W1.heap.size W1 W5 by rw [hW5]; exact hb4.alloc hb4.size _)
  have HGR := hide_ (show W1.heap.size ≤ gr by rw [hgr]; exact hb4.size)
  have HCW := hide_ hcw
  clear hO4 hb4 HLR x6 x7 z3 hcw f0 f1 f2 f3 z0 z1 z2
  go_upto_region 2 with (fail)
  rw [← hW5, ← hgr]
  clear hW5 hgr
  have HI5 := hide_ (HI1.out.below HB5.out)
  obtain ⟨bg, cg, br, cr, eg, er, ⟨f0, f1, f2, f3⟩, ⟨z0, z1, z2⟩, _⟩ := HGT.out W5 HI5.out
  have f4 : W5.cell? ⟨q0, 2, none⟩ = some (.pointer (some ⟨st.g, 0, none⟩)) := HI5.out.own.cell (i := 0) (j := 2) rfl rfl
  rw [← HGN.out] at f0 f1
  have k0 := HKR.out.cell 0
  have k1 := HKR.out.cell 1
  have kz := HKR.out.lt
  clear eg er
  go_still_tail 13, (by kernel_rfl)
  change wpList _ _ _ _ _ W5.drew
  obtain ⟨Wd, hWd⟩ : ∃ w, w = W5.drew := ⟨_, rfl⟩
  have HBd := hide_ (show Below W5.heap.size W5 Wd by rw [hWd]; exact (Below.refl _ _).drew)
  rw [← hWd]
  clear hWd f0 f1 f2 f3 f4 k0 k1 kz z0 z1 z2
  have HId := hide_ (HI5.out.below HBd.out)
  have HOd := hide_ (HO5.out.below HBd.out)
  have HKd := hide_ (HKR.out.below HBd.out HKR.out.lt)
  have HB1d := hide_ (HB5.out.trans (HBd.out.mono HB5.out.size))
  have HYd := hide_ (HY1.out.below (HB1d.out.mono HI1.out.base))
  have HAPd := hide_ (HAP.out Wd HId.out y.v Aw y.wn cw (wsL y.ws vs) y.zs (lent_replyAt HOd.out HSD.out.1 (fun j hj => ⟨(HYd.out.wz j hj).1, (HYd.out.wz j hj).2.1, (by have := (HYd.out.wz j hj).2.2.1.1; simpa using this)⟩)) (by have := HY1.out.wn; unfold maxLen; omega) ft (by rw [fitsN_lent, ← HFT.out]))
  go_wp2_with fail
  refine HAPd.out.mono ?_
  rintro e W6 ⟨ze, rfl, hg6, hyes, hno⟩
  have HG6 := hide_ hg6
  have HYES := hide_ hyes
  have HNO := hide_ hno
  have HBB6 := hide_ (show Below B Wd W6 from (Below.refl B Wd).grown hg6 HId.out.base (fun k e => by injection e with e; subst e; exact HSD.out.2))
  have HK6 := hide_ (fun k (h1 : k < Wd.heap.size) (h2 : k ≠ st.d) => show W6.heap[k]? = Wd.heap[k]? from hg6.block k h1 (fun e => by injection e with e; exact h2 e))
  have HZ6 := hide_ (show Wd.heap.size ≤ W6.heap.size from hg6.size)
  have HO6 := hide_ (HOd.out.hold (w' := W6) (fun k h1 h2 => HK6.out k h2 (by have := HSD.out.1; omega)))
  have HKR6 := hide_ (show Blk W6 gr 81 #[.int .u32 y.v, .slice Aw y.wn cw, .slice Af y.wn cf] from (HK6.out gr HKd.out.lt (by have := HSD.out.1; have := HGR.out; omega)).trans HKd.out)
  have HX6 := hide_ (fun k (h1 : k < W1.heap.size) (h2 : k ≠ st.d) => show W6.heap[k]? = W1.heap[k]? from (HK6.out k (Nat.lt_of_lt_of_le h1 HB1d.out.size) h2).trans (HB1d.out.block k h1))
  have HY6 := hide_ (HYd.out.below HBB6.out)
  have HZ16 := hide_ (Nat.le_trans HB1d.out.size HZ6.out)
  clear hg6 hyes hno
  obtain ⟨⟨x6, x7⟩, z3⟩ := HBX.out W6 HX6.out
  have k0 := HKR6.out.cell 0
  have k1 := HKR6.out.cell 1
  have k2 := HKR6.out.cell 2
  have kz := HKR6.out.lt
  have HBB := hide_ (Nat.le_trans HI1.out.base HZ16.out)
  have HKY := hide_ (KeptReply_any y.v y.WA y.wn y.wc y.ws y.zs vs Af cf Aw cw W1.heap.size B W6 HO6.out HZ16.out HY6.out.wr HBB.out HY6.out.wn HCW.out (fun j hj => (HY6.out.wz j hj).2.2))
  go_upto_region 3 with (fail)
  go_wp2_with fail
  refine HKY.out.mono ?_
  rintro e W7 ⟨rfl, hb7⟩
  have HB7 := hide_ hb7
  have HKR7 := hide_ (HKR6.out.below hb7 HKR6.out.lt)
  clear hb7 x6 x7 z3 k0 k1 k2 kz HKY
  have k0 := HKR7.out.cell 0
  have k1 := HKR7.out.cell 1
  have k2 := HKR7.out.cell 2
  have kz := HKR7.out.lt
  have HOV := hide_ (OverReply_any y.v y.wn vs (fun j => (y.ws j).n + 64) Af cf Aw cw W1.heap.size (wCells y.ws vs y.wn ++ tails 4) (fun j => y.zs j ++ marks8 0 0 64) W7 (by unfold repR; rw [List.append_nil]; exact HO6.out.below HB7.out) (Nat.le_trans HZ16.out HB7.out.size) (by have := HY1.out.wn; omega) (fun j hj => ⟨Nat.succ_pos _, by have := (HY1.out.wz j hj).2.2.2.1; unfold maxLen; omega⟩))
  go_upto_region 5 with (fail)
  go_wp2_with fail
  refine HOV.out.mono ?_
  rintro e W8 ⟨rfl, hb8⟩
  have HB8 := hide_ hb8
  clear hb8 HOV k0 k1 k2 kz
  have HX8 := hide_ (fun k (h1 : k < W1.heap.size) => show W8.heap[k]? = W6.heap[k]? from (HB8.out.block k h1).trans (HB7.out.block k (Nat.lt_of_lt_of_le h1 HZ16.out)))
  have HZ8 := hide_ (Nat.le_trans HB7.out.size HB8.out.size)
  have HBB8 := hide_ (show Below B W6 W8 from (HB7.out.mono HBB.out).trans (HB8.out.mono HI1.out.base))
  obtain ⟨⟨x6, x7⟩, z3⟩ := HBX.out W8 (fun k h1 h2 => (HX8.out k h1).trans (HX6.out k h1 h2))
  have HY8 := hide_ (HY6.out.below HBB8.out)
  have HBZ8 := hide_ (Nat.le_trans HBB.out HZ8.out)
  have HRF := hide_ (show Calls Try.prog 39 #[.agg #[.int .u32 y.v, .slice y.WA y.wn y.wc]] W8 fun e w' => e = .returned (.bool ft) ∧ Below W8.heap.size W8 w' from by
    rw [HFT.out]; exact rFits_any y.v y.WA y.wn y.wc B y.ws W8 HY8.out.wr HBZ8.out (by have := HY1.out.wn; unfold maxLen; omega))
  go_upto_region 6 with (fail)
  go_wp2_with fail
  refine HRF.out.mono ?_
  rintro e W9 ⟨rfl, hb9⟩
  have HB89 := hide_ hb9
  clear hb9 HRF x6 x7 z3
  have HX9 := hide_ (fun k (h1 : k < W1.heap.size) => show W9.heap[k]? = W6.heap[k]? from (HB89.out.block k (Nat.lt_of_lt_of_le h1 (Nat.le_trans HZ16.out HZ8.out))).trans (HX8.out k h1))
  have HZ9 := hide_ (Nat.le_trans HZ8.out HB89.out.size)
  have HBB9 := hide_ (show Below B W6 W9 from HBB8.out.trans (HB89.out.mono HBZ8.out))
  have HBW9 := hide_ (show Below B W W9 from (HW1.out.mono HBW.out).trans ((HB1d.out.mono HI1.out.base).trans (HBB6.out.trans HBB9.out)))
  cases ft with
  | false =>
    obtain ⟨e6, hb6⟩ := HNO.out rfl
    subst e6
    have HL9 := hide_ (show Below W1.heap.size W1 W9 from HB1d.out.trans ((hb6.mono HB1d.out.size).trans ((HB7.out.mono HZ16.out).trans (HB8.out.trans (HB89.out.mono (Nat.le_trans HZ16.out HZ8.out))))))
    clear hb6
    obtain ⟨AD1, cD1, xs1, hA, hc, hx1⟩ : ∃ A c xs, A = st.AD ∧ c = st.cD ∧ xs = st.xs := ⟨_, _, _, rfl, rfl, rfl⟩
    have HI9 := hide_ (show GInv F W9 B q0 (k + 1) { st with xs := xs1, AD := AD1, cD := cD1 } ex by rw [hA, hc, hx1]; exact (HI1.out.below HL9.out).step)
    clear hA hc hx1
    have HGI := hide_ HI9.out
    have HGB := hide_ HBW9.out
    have HBY := hide_ (fun w' (hb : Below W9.heap.size W9 w') => (HGI.out.below hb).bytes)
    obtain ⟨q2, q3⟩ : W9.cell? ⟨q0, 2, none⟩ = some (.pointer (some ⟨st.g, 0, none⟩)) ∧ W9.cell? ⟨q0, 3, none⟩ = some (.slice AD1 256 cD1) := ⟨HGI.out.own.cell (i := 0) (j := 2) rfl rfl, HGI.out.own.cell (i := 0) (j := 3) rfl rfl⟩
    have zq := (HGI.out.own.base (i := 0) rfl).2
    have HRD := hide_ (show Reads W9 W9.heap.size 1 AD1 256 (u8s xs1) from Reads.of_own (HGI.out.own.at_ (i := 5) rfl))
    go_upto_region 7 with (fail)
    go_region_held3 (fun w' => w'.cell? ⟨q0, 2, none⟩ = some (.pointer (some ⟨st.g, 0, none⟩)) ∧ w'.cell? ⟨q0, 3, none⟩ = some (.slice AD1 256 cD1) ∧ Below W9.heap.size W9 w')
      (first | exact ⟨q2, q3, (Below.refl _ _).drew⟩ | exact ⟨(HB8.out.cell (p := ⟨q0, 2, none⟩) zq).trans q2, (HB8.out.cell (p := ⟨q0, 3, none⟩) zq).trans q3, HB8.out⟩ | exact ⟨(HB9.out.cell (p := ⟨q0, 2, none⟩) zq).trans q2, (HB9.out.cell (p := ⟨q0, 3, none⟩) zq).trans q3, HB9.out⟩)
      (first
        | (go_at_call 44; refine (HBY.out _ (by first | exact (Below.refl _ _).drew)).mono ?_; rintro e w8 ⟨o, co, rfl, ho8, hb8⟩; have HO8 := hide_ ho8; have HB8 := hide_ (show Below W9.heap.size W9 w8 from ev_to hb8 (by first | exact (Below.refl _ _).drew)); have HSB := hide_ (SameBytes_any (some ⟨o, 0, none⟩) AD1 256 co 256 cD1 xs1 xs1 w8.heap.size w8 (Reads.of_own HO8.out) ((HRD.out.below HB8.out).more HB8.out.size) (by unfold maxLen; omega) (by unfold maxLen; omega)); clear ho8 hb8)
        | (go_at_call 43; refine HSB.out.mono ?_; rintro e w9 ⟨rfl, nq9, rfl⟩; simp only [decide_true]; have HB9 := hide_ (below_draws2 HB8.out nq9)))
    all_goals
      have HF := hide_ (HGI.out.below HB9.out)
      have HBF := hide_ (show Below B W (w8.drewN nq9) from HGB.out.trans (HB9.out.mono HGI.out.base))
      clear q2 q3 zq
      go_wp2_with fail
      exact bodyPost_ret (v := .bool true) (by simp [results, Try.results21, go_sem]) rfl ⟨rfl, _, HF.out, HBF.out⟩
  | true =>
    obtain ⟨e6, hl⟩ := HYES.out rfl
    subst e6
    rw [applyW_lent] at hl
    obtain ⟨xs1, hx1⟩ : ∃ l, l = applyW 256 y.ws y.zs st.xs y.wn := ⟨_, rfl⟩
    rw [← hx1] at hl
    have HX1 := hide_ hx1
    have HLO := hide_ (show xs1.length = 256 ∧ bytesOk xs1 from ⟨hl.1.len, hl.1.ok⟩)
    obtain ⟨We, hWe⟩ : ∃ w, w = W9.drew := ⟨_, rfl⟩
    have HB9e := hide_ (show Below W9.heap.size W9 We by rw [hWe]; exact (Below.refl _ _).drew)
    have HO9 := hide_ (show OwnsF F Wd We B (rowsGx q0 st xs1 ex) by rw [hWe]; exact (HI1.out.laidLow HB1d.out hl HX9.out HZ9.out).drew)
    have q3 : W9.cell? ⟨q0, 3, none⟩ = some (.slice st.AD 256 st.cD) := (HI1.out.laidLow HB1d.out hl HX9.out HZ9.out).cell (i := 0) (j := 3) rfl rfl
    have zq : q0 < W9.heap.size := ((HI1.out.laidLow HB1d.out hl HX9.out HZ9.out).base (i := 0) rfl).2
    have HBZ9 := hide_ (Nat.le_trans HBZ8.out HB89.out.size)
    have HBBe := hide_ (show Below B W6 We from HBB9.out.trans (HB9e.out.mono HBZ9.out))
    have HYe := hide_ (HY6.out.below HBBe.out)
    have HBZe := hide_ (Nat.le_trans HBZ9.out HB9e.out.size)
    obtain ⟨⟨x6, x7⟩, z3⟩ := HBX.out W9 (fun k h1 h2 => (HX9.out k h1).trans (HX6.out k h1 h2))
    have HFA := hide_ (fits_facts HFT.out.symm)
    have HRA := hide_ (show Calls Try.prog 45 #[.slice st.AD 256 st.cD, .agg #[.int .u32 y.v, .slice y.WA y.wn y.wc]] We fun e w' => ∃ v, e = .returned v ∧ w'.ownsRow We.heap.size 5 1 v 256 (u8s xs1) ∧ Below We.heap.size We w' from by
      rw [HX1.out]
      exact rApply_any st.AD st.cD We.heap.size st.xs y.v y.WA y.wn y.wc y.ws y.zs We (Reads.of_own (HO9.out.own.at_ (i := 5) rfl)) (Nat.le_refl _) (HYe.out.wr.more HBZe.out) HFA.out.1 (fun j hj => ⟨(HYe.out.wz j hj).1, HFA.out.2 j hj, (HYe.out.wz j hj).2.2.1.more HBZe.out⟩))
    clear hl hx1
    have HWE := hide_ hWe
    clear hWe
    go_upto_region 8 with (fail)
    go_region_with (go_at_call 45; rw [← HWE.out]; refine HRA.out.mono ?_; rintro e W10 ⟨v10, rfl, ho10, hb10⟩; obtain ⟨AD1, cD1, rfl, _, _⟩ := ownsRow_slice ho10; have HP10 := hide_ (HO9.out.push hb10 (r := ⟨5, 1, .slice AD1 256 cD1, 256, u8s xs1⟩) ho10 HBZe.out); have HBB10 := hide_ (show Below B W6 W10 from HBBe.out.trans (hb10.mono HBZe.out)); clear ho10 hb10; have h3 : W10.cell? ⟨q0, 3, none⟩ = some (.slice st.AD 256 st.cD) := HP10.out.cell (i := 0) (j := 3) rfl rfl; have f3 : W10.frozen? ⟨q0, 3, none⟩ = false := HP10.out.frozen (i := 0) rfl 3; have zq : q0 < W10.heap.size := (HP10.out.base (i := 0) rfl).2)
    all_goals
      obtain ⟨W11, hW11⟩ : ∃ W, W = W10.setCell ⟨q0, 3, none⟩ (.slice AD1 256 cD1) := ⟨_, rfl⟩
      have HO11 := hide_ (show OwnsF F Wd W11 B (rowsG q0 { st with xs := xs1, AD := AD1, cD := cD1 } ex) by
        rw [hW11]
        exact follow_rows (HP10.out.store (i := 0) rfl (j := 3) (by simp) _))
      have HBB11 := hide_ (show Below B W6 W11 by rw [hW11]; exact HBB10.out.setCell (p := ⟨q0, 3, none⟩) (HP10.out.base (i := 0) rfl).1 _)
      have HI11 := hide_ (show GInv F W11 B q0 (k + 1) { st with xs := xs1, AD := AD1, cD := cD1 } ex from HId.out.follow HO11.out (Nat.le_trans HZ6.out HBB11.out.size) HLO.out.1 HLO.out.2)
      have HBW11 := hide_ (show Below B W W11 from (HW1.out.mono HBW.out).trans ((HB1d.out.mono HI1.out.base).trans (HBB6.out.trans HBB11.out)))
      go_upto_region 9 with (fail)
      rw [← hW11]
      clear hW11 h3 f3 zq
      have HGI := hide_ HI11.out
      have HGB := hide_ HBW11.out
      have HBY := hide_ (fun w' (hb : Below W11.heap.size W11 w') => (HGI.out.below hb).bytes)
      obtain ⟨q2, q3⟩ : W11.cell? ⟨q0, 2, none⟩ = some (.pointer (some ⟨st.g, 0, none⟩)) ∧ W11.cell? ⟨q0, 3, none⟩ = some (.slice AD1 256 cD1) := ⟨HGI.out.own.cell (i := 0) (j := 2) rfl rfl, HGI.out.own.cell (i := 0) (j := 3) rfl rfl⟩
      have zq := (HGI.out.own.base (i := 0) rfl).2
      have HRD := hide_ (show Reads W11 W11.heap.size 1 AD1 256 (u8s xs1) from Reads.of_own (HGI.out.own.at_ (i := 5) rfl))
      go_region_held3 (fun w' => w'.cell? ⟨q0, 2, none⟩ = some (.pointer (some ⟨st.g, 0, none⟩)) ∧ w'.cell? ⟨q0, 3, none⟩ = some (.slice AD1 256 cD1) ∧ Below W11.heap.size W11 w')
        (first | exact ⟨q2, q3, (Below.refl _ _).drew⟩ | exact ⟨(HB8.out.cell (p := ⟨q0, 2, none⟩) zq).trans q2, (HB8.out.cell (p := ⟨q0, 3, none⟩) zq).trans q3, HB8.out⟩ | exact ⟨(HB9.out.cell (p := ⟨q0, 2, none⟩) zq).trans q2, (HB9.out.cell (p := ⟨q0, 3, none⟩) zq).trans q3, HB9.out⟩)
        (first
          | (go_at_call 44; refine (HBY.out _ (by first | exact (Below.refl _ _).drew)).mono ?_; rintro e w8 ⟨o, co, rfl, ho8, hb8⟩; have HO8 := hide_ ho8; have HB8 := hide_ (show Below W11.heap.size W11 w8 from ev_to hb8 (by first | exact (Below.refl _ _).drew)); have HSB := hide_ (SameBytes_any (some ⟨o, 0, none⟩) AD1 256 co 256 cD1 xs1 xs1 w8.heap.size w8 (Reads.of_own HO8.out) ((HRD.out.below HB8.out).more HB8.out.size) (by unfold maxLen; omega) (by unfold maxLen; omega)); clear ho8 hb8)
          | (go_at_call 43; refine HSB.out.mono ?_; rintro e w9 ⟨rfl, nq9, rfl⟩; simp only [decide_true]; have HB9 := hide_ (below_draws2 HB8.out nq9)))
      all_goals
        have HF := hide_ (HGI.out.below HB9.out)
        have HBF := hide_ (show Below B W (w8.drewN nq9) from HGB.out.trans (HB9.out.mono HGI.out.base))
        clear q2 q3 zq
        go_wp2_with fail
        exact bodyPost_ret (v := .bool true) (by simp [results, Try.results21, go_sem]) rfl ⟨rfl, _, HF.out, HBF.out⟩
end
end Go.Proofs.Ytcfpclhoockcfaa
