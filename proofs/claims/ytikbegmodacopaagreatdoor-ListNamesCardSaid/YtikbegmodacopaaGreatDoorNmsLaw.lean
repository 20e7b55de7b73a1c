/-
  ListNames: closed: the errors' numbers, the limit, the examples.
-/
import Derived.Test.YtikbegmodacopaaGreatDoorNms
import Derived.Test.YtikbegmodacopaaGreatDoorB27
import Derived.Test.YtikbegmodacopaaGreatDoorDmpRaw
import Derived.Laws.OwnMore
namespace Go.Proofs.YtikbegmodacopaaGreatDoor
open Go.RowKit Go.PlainAid Go.BigFrame Go.Shelf
set_option linter.unusedSimpArgs false
set_option linter.unusedVariables false
set_option maxRecDepth 100000
theorem reads_set_ne {W : World} {B K n g : Nat} {p : Addr} {u : Value} {xs : List Value} (h : Reads W B K (some ⟨g, 0, none⟩) n xs) (hg : g ≠ p.block) : Reads (W.setCell p u) B K (some ⟨g, 0, none⟩) n xs := by
  refine ⟨h.1, fun hn => ?_⟩
  obtain ⟨ad, e, hb, hc⟩ := h.2 hn
  refine ⟨ad, e, hb, fun j v hj => ?_⟩
  injection e with e
  subst e
  rw [← hc j v hj]
  exact World.cell?_of_block (Below.heap_setCell _ _ _ _ (by rw [block_of_add]; exact hg))
/-- the sample, with where it lies -/
def Smp2 (w : World) (e : Ending) (w' : World) : Prop :=
  e = .returned (.agg (imgV smpI (smpS w.heap.size))) ∧ ImgR w' w'.heap.size smpI (smpS w.heap.size) ∧ Blk w' (w.heap.size + 3) 44 #[.string ⟨#[109, 97, 105, 110]⟩, .int .u32 0] ∧ w'.heap.size = w.heap.size + 4 ∧ Below w.heap.size w w'
set_option maxHeartbeats 4000000 in
theorem sample2_any (w : World) : Calls Tryz.prog 31 #[] w (Smp2 w) := by
  obtain ⟨w1, hw1⟩ : ∃ W, W = w.alloc (.cells z6 28) := ⟨_, rfl⟩
  have hs1 : w1.heap.size = w.heap.size + 1 := by rw [hw1]; simp
  have HB1 := hide_ (show Below w.heap.size w w1 by rw [hw1]; exact (Below.refl _ _).alloc (Nat.le_refl _) _)
  have HK1 := hide_ (show Blk w1 w.heap.size 28 z6 by rw [hw1]; exact Blk.new w _ _)
  obtain ⟨w2, hw2⟩ : ∃ W, W = w1.alloc (.cells #[.int .u8 3, .int .u32 8, .int .u8 8, .int .u32 0, .int .u8 8, .int .u32 1, .int .u8 13, .int .u32 5, .int .u8 6, .int .u32 1, .int .u8 8, .int .u32 7, .int .u8 4, .int .u32 8] 66) := ⟨_, rfl⟩
  have hs2 : w2.heap.size = w.heap.size + 1 + 1 := by rw [hw2]; simp [hs1]
  have HB2 := hide_ (show Below w1.heap.size w1 w2 by rw [hw2]; exact (Below.refl _ _).alloc (Nat.le_refl _) _)
  have HR2 := hide_ (show Reads w2 w2.heap.size 2 (some ⟨w.heap.size + 1, 0, none⟩) 7 (smpI.code.flatMap cE) by
    have h := reads_new w1 66 2 7 (smpI.code.flatMap cE) rfl
    rw [← hs1, hs2, ← hs1, hw2]
    exact h)
  obtain ⟨w3, hw3⟩ : ∃ W, W = w2.alloc (.cells #[.int .u32 5] 25) := ⟨_, rfl⟩
  have hs3 : w3.heap.size = w.heap.size + 1 + 1 + 1 := by rw [hw3]; simp [hs2]
  have HB3 := hide_ (show Below w2.heap.size w2 w3 by rw [hw3]; exact (Below.refl _ _).alloc (Nat.le_refl _) _)
  have HR3 := hide_ (show Reads w3 w3.heap.size 1 (some ⟨w.heap.size + 1 + 1, 0, none⟩) 1 (u32s smpI.jumps) by
    have h := reads_new w2 25 1 1 (u32s smpI.jumps) rfl
    rw [← hs2, hs3, ← hs2, hw3]
    exact h)
  obtain ⟨w4, hw4⟩ : ∃ W, W = w3.alloc (.cells #[.string ⟨#[109, 97, 105, 110]⟩, .int .u32 0] 44) := ⟨_, rfl⟩
  have hs4 : w4.heap.size = w.heap.size + 1 + 1 + 1 + 1 := by rw [hw4]; simp [hs3]
  have HB4 := hide_ (show Below w3.heap.size w3 w4 by rw [hw4]; exact (Below.refl _ _).alloc (Nat.le_refl _) _)
  have HR4 := hide_ (show Reads w4 w4.heap.size 2 (some ⟨w.heap.size + 1 + 1 + 1, 0, none⟩) 1 (smpI.names.flatMap xE) by
    have h := reads_new w3 44 2 1 (smpI.names.flatMap xE) rfl
    rw [← hs3, hs4, ← hs3, hw4]
    exact h)
  have RS := hide_ (show Blk w4 w.heap.size 28 z6 by rw [hw4, hw3, hw2]; exact ((HK1.out.alloc _).alloc _).alloc _)
  have FIN := hide_ (show Smp2 w (Ending.returned (.agg (imgV smpI (smpS w.heap.size)))) (w4.setRow w.heap.size (imgV smpI (smpS w.heap.size))) by
    have hr := fun {K n : Nat} {g : Nat} {xs : List Value} (h : Reads w4 w4.heap.size K (some ⟨g, 0, none⟩) n xs) (hg : g ≠ w.heap.size) => reads_setRow h (cs := imgV smpI (smpS w.heap.size)) hg
    have hz : (w4.setRow w.heap.size (imgV smpI (smpS w.heap.size))).heap.size = w4.heap.size := size_setRow ..
    have hb4 : Blk w4 (w.heap.size + 3) 44 #[.string ⟨#[109, 97, 105, 110]⟩, .int .u32 0] := by
      have := Blk.new w3 44 #[.string ⟨#[109, 97, 105, 110]⟩, .int .u32 0]
      rw [hs3, ← hw4] at this
      exact this
    refine ⟨rfl, ?_, (setRow_other _ _ _ _ (by omega)).trans hb4, by rw [hz, hs4], ?_⟩
    · rw [hz]
      refine ⟨hr ((((HR2.out.below (HB3.out)).more (by omega)).below HB4.out).more (by omega)) (by omega), hr ((HR3.out.below HB4.out).more (by omega)) (by omega), ⟨rfl, fun h => absurd h (by decide)⟩, hr HR4.out (by omega), ?_⟩
      unfold smpI smpS
      dsimp only
      decide
    · exact below_setRow ((HB1.out.trans (HB2.out.mono (by omega))).trans ((HB3.out.mono (by omega)).trans (HB4.out.mono (by omega)))) (Nat.le_refl _) _)
  have OO := hide_ (show (imgV smpI (smpS w.heap.size)).all (·.oneCell') = true by simp [imgV, Value.oneCell'])
  have HZ := hide_ (And.intro hs1 (And.intro hs2 (And.intro hs3 hs4)))
  unfold z6 at hw1
  go_enter Tryz.func31, Tryz.ntmps31
  go_upto_region 1 with (fail)
  rw [← hw1]
  clear hw1
  go_upto_region 2 with (fail)
  rw [← hw2]
  clear hw2
  rw [hw3] at hw4
  go_wp2_with (first | (rw [← hw4]; refine wpList_store_row rfl 28 (.tmp 0) (.tmp 14) rfl _ (imgV smpI (smpS w.heap.size)) rfl rfl 28 z6 RS.out z6_sz rfl OO.out ?_))
  exact bodyPost_ret (v := .agg (imgV smpI (smpS w.heap.size))) (results_cell_row rfl _ _ w.heap.size _ _ _ _ rfl (setRow_heap _ _ _ _ _ _ RS.out) Tryz.underlying28 rfl z6_sz) rfl FIN.out
/-- the image's box while its jumps are put anew -/
structure NmsAt (q : Nat) (j : List Int) (s : ImgS) (W : World) : Prop where
  box : Blk W q 28 (imgV (smpJ j) s)
  rd : ImgR W W.heap.size (smpJ j) s
theorem NmsAt.below {q : Nat} {j : List Int} {s : ImgS} {W W' : World} (h : NmsAt q j s W) (hb : Below W.heap.size W W') : NmsAt q j s W' :=
  ⟨h.box.below hb h.box.lt, (h.rd.below hb).more hb.size⟩
theorem NmsAt.put {q n a d : Nat} {j j' : List Int} {s : ImgS} {W : World} (h : NmsAt q j s W) (hn : j'.length = n) (hc : s.c.A = some ⟨a, 0, none⟩) (ha : a ≠ q) (hN : s.n.A = some ⟨d, 0, none⟩) (hd : d ≠ q) :
    NmsAt q j' ⟨s.c, ⟨some ⟨W.heap.size, 0, none⟩, n⟩, s.d, s.n⟩ ((W.alloc (.cells (u32s j').toArray 25)).setCell ⟨q, 1, none⟩ (.slice (some ⟨W.heap.size, 0, none⟩) n n)) := by
  subst hn
  have hq := h.box.lt
  obtain ⟨h1, h2, h3, h4, h5⟩ := h.rd
  obtain ⟨⟨cA, cc⟩, ⟨jA, jc⟩, ⟨dA, dc⟩, ⟨nA, nc⟩⟩ := s
  simp only at hc hN h1 h2 h3 h4 h5
  subst hc hN
  have hz : ((W.alloc (.cells (u32s j').toArray 25)).setCell ⟨q, 1, none⟩ (.slice (some ⟨W.heap.size, 0, none⟩) j'.length j'.length)).heap.size = W.heap.size + 1 := by simp [World.setCell]
  refine ⟨?_, ?_⟩
  · have := (h.box.alloc (.cells (u32s j').toArray 25)).set_ 1 (.slice (some ⟨W.heap.size, 0, none⟩) j'.length j'.length)
    exact this
  · rw [hz]
    refine ⟨reads_set_ne ((h1.alloc (Nat.le_refl _) _).more (Nat.le_succ _)) (by exact ha), reads_set_ne (reads_new W 25 1 j'.length (u32s j') (by simp [u32s])) (by show W.heap.size ≠ q; omega), ?_, reads_set_ne ((h4.alloc (Nat.le_refl _) _).more (Nat.le_succ _)) (by exact hd), ?_⟩
    · exact ⟨h3.1, fun h => absurd h (Nat.lt_irrefl 0)⟩
    · exact ⟨h5.1, Nat.le_refl _, h5.2.2.1, h5.2.2.2⟩
theorem obj_bad (x : ImgV) (s : ImgS) (w : World) (hx : ImgOk x) (hr : ImgR w w.heap.size x s) (hT : TabOk w) (he : objE x = 120) :
    Calls Tryz.prog 10 #[.agg (imgV x s)] w fun e w' => e = .returned (.tuple #[.agg z8, .int .i64 120]) ∧ Below w.heap.size w w' := by
  refine (Object_any x s w hx hr hT).mono ?_
  intro e w' h
  unfold ObjIs at h
  rw [if_neg (by rw [he]; decide), he] at h
  exact h
theorem obj_good (x : ImgV) (s : ImgS) (w : World) (hx : ImgOk x) (hr : ImgR w w.heap.size x s) (hT : TabOk w) (he : objE x = 0) (t0 : ByteArray) (ht : (objO x).targets = [t0]) :
    Calls Tryz.prog 10 #[.agg (imgV x s)] w fun e w' => ∃ s2, e = .returned (.tuple #[.agg (objV (objO x) s2), .int .i64 0]) ∧ (∃ g, s2.t.A = some ⟨g, 0, none⟩ ∧ w.heap.size ≤ g ∧ g < w'.heap.size ∧ w'.cell? ⟨g, 0, none⟩ = some (.string t0)) ∧ Below w.heap.size w w' := by
  refine (Object_any x s w hx hr hT).mono ?_
  intro e w' h
  unfold ObjIs at h
  rw [if_pos he] at h
  obtain ⟨s2, h1, h2, h3⟩ := h
  refine ⟨s2, h1, ?_, h3⟩
  have ho : w'.ownsRow w.heap.size 9 1 (.slice s2.t.A (objO x).targets.length s2.t.c) (objO x).targets.length (strV (objO x).targets) := h2.at_ (i := 2) rfl
  rw [ht] at ho
  obtain ⟨g, c, hv⟩ := ownsRow_some ho (by show 0 < 1; omega)
  injection hv with hv
  rw [hv] at ho
  have hl := ho.lt g rfl
  refine ⟨g, hv, hl.1, hl.2, ?_⟩
  have hr := (Reads.of_own ho).2 (by show 0 < 1; omega)
  obtain ⟨ad, e1, _, hc⟩ := hr
  injection e1 with e1
  subst e1
  have := hc 0 _ rfl
  rw [Lib.add_plain] at this
  exact this
def smpK (a : Nat) (p n : Nat) : ImgS := ⟨⟨some ⟨a + 1, 0, none⟩, 7⟩, ⟨some ⟨p, 0, none⟩, n⟩, ⟨none, 0⟩, ⟨some ⟨a + 1 + 1 + 1, 0, none⟩, 1⟩⟩
def smpC (a p n : Nat) : Array Value := #[.slice (some ⟨a + 1, 0, none⟩) 7 7, .slice (some ⟨p, 0, none⟩) n n, .slice none 0 0, .int .u32 4, .int .u32 64, .slice (some ⟨a + 1 + 1 + 1, 0, none⟩) 1 1]
theorem smpC_eq (a p n : Nat) (j : List Int) (h : j.length = n) : imgV (smpJ j) (smpK a p n) = smpC a p n := by
  subst h
  rfl
set_option maxHeartbeats 8000000 in
theorem ListNames_any (w : World) (hT : TabOk w) (hU : BruOk w) :
    Calls Tryz.prog 7 #[] w fun e w' => e = .returned (.bool true) ∧ Below w.heap.size w w' := by
  have HT := hide_ (fun W (hb : Below w.heap.size w W) => hT.below hb)
  have HU := hide_ (fun W (hb : Below w.heap.size w W) => hU.below hb)
  have HAW := hide_ (fun W (hb : Below w.heap.size w W) => awake_any W (HT.out W hb))
  have HL1 := hide_ (fun W (hb : Below w.heap.size w W) => Line_any 10 0 (by decide) (by decide) (by decide) (by decide) W (HT.out W hb))
  have HL2 := hide_ (fun W (hb : Below w.heap.size w W) => Line_any 12 15 (by decide) (by decide) (by decide) (by decide) W (HT.out W hb))
  rw [nms_l1, nms_l2] at HL1
  rw [nms_l3] at HL2
  obtain ⟨t2, ht2⟩ : ∃ t, t = lineS 12 15 := ⟨_, rfl⟩
  rw [← ht2] at HL2
  clear hT hU ht2
  go_enter Tryz.func7, Tryz.ntmps7
  go_wp2_with fail
  refine (HAW.out w (Below.refl _ _)).mono ?_
  rintro e w1 ⟨rfl, hb1⟩
  have HB1 := hide_ hb1
  clear hb1 HAW
  go_wp2_with fail
  refine (HL1.out w1 HB1.out).mono ?_
  rintro e w2 ⟨rfl, hb2⟩
  have HB2 := hide_ (HB1.out.trans (hb2.mono HB1.out.size))
  clear hb2 HL1 HB1
  go_wp2_with fail
  refine (HL2.out w2 HB2.out).mono ?_
  rintro e w3 ⟨rfl, hb3⟩
  have HB3 := hide_ (HB2.out.trans (hb3.mono HB2.out.size))
  clear hb3 HL2 HB2
  go_wp2_with fail
  refine (sample2_any w3).mono ?_
  rintro e w4 ⟨rfl, hr4, hn4, hz4, hb4⟩
  obtain ⟨n0, hn0⟩ : ∃ n, n = w3.heap.size := ⟨_, rfl⟩
  have HB4 := hide_ (HB3.out.trans (hb4.mono HB3.out.size))
  have hwn : w.heap.size ≤ n0 := by rw [hn0]; exact HB3.out.size
  rw [← hn0] at hr4 hn4 hz4 ⊢
  obtain ⟨w5, hw5⟩ : ∃ W, W = w4.alloc (.cells (imgV smpI (smpS n0)) 28) := ⟨_, rfl⟩
  have HA5 := hide_ (show NmsAt w4.heap.size [5] (smpS n0) w5 by
    rw [hw5]
    exact ⟨Blk.new w4 _ _, (hr4.below ((Below.refl _ _).alloc (Nat.le_refl _) _)).more (by simp)⟩)
  have HB5 := hide_ (show Below w.heap.size w w5 by rw [hw5]; exact HB4.out.alloc HB4.out.size _)
  have hz5 : w5.heap.size = n0 + 5 := by rw [hw5, World.size_alloc, hz4]
  rw [hz4] at HA5
  rw [show imgV smpI (smpS n0) = #[.slice (some ⟨n0 + 1, 0, none⟩) 7 7, .slice (some ⟨n0 + 1 + 1, 0, none⟩) 1 1, .slice none 0 0, .int .u32 4, .int .u32 64, .slice (some ⟨n0 + 1 + 1 + 1, 0, none⟩) 1 1] from rfl] at hw5 ⊢
  clear hr4 hn4 hb4 HB3 HB4 hn0
  go_upto_region 8 with (fail)
  rw [← hw5]
  have HZ5 := hide_ hz5
  clear hw5 hz4 hz5
  obtain ⟨w6, hw6⟩ : ∃ W, W = (w5.alloc (.cells #[.int .u32 5, .int .u32 5] 25)).setCell ⟨n0 + 4, 1, none⟩ (.slice (some ⟨w5.heap.size, 0, none⟩) 2 2) := ⟨_, rfl⟩
  have HAw6 := hide_ (show NmsAt (n0 + 4) [5, 5] (smpK n0 w5.heap.size 2) w6 by
    rw [hw6]
    exact HA5.out.put (j' := [5, 5]) rfl rfl (by omega) rfl (by omega))
  have HBw6 := hide_ (show Below w.heap.size w w6 by rw [hw6]; exact (HB5.out.alloc HB5.out.size _).setCell (p := ⟨n0 + 4, 1, none⟩) (by show w.heap.size ≤ n0 + 4; omega) _)
  have f0 : (w5.alloc (.cells #[.int .u32 5, .int .u32 5] 25)).cell? ⟨n0 + 4, 1, none⟩ = some (.slice (some ⟨n0 + 1 + 1, 0, none⟩) 1 1) := (HA5.out.box.alloc _).cell 1
  have f1 : (w5.alloc (.cells #[.int .u32 5, .int .u32 5] 25)).frozen? ⟨n0 + 4, 1, none⟩ = false := (HA5.out.box.alloc _).frozen 1
  go_upto_region 9 with (fail)
  rw [← hw6]
  have OB := hide_ (obj_bad (smpJ [5, 5]) (smpK n0 w5.heap.size 2) w6 (smpJ_ok _ (by decide) (by decide)) HAw6.out.rd (HT.out w6 HBw6.out) nms_1)
  have hbx := HAw6.out.box
  rw [smpC_eq n0 w5.heap.size 2 [5, 5] rfl] at OB hbx
  obtain ⟨aw6, haw6⟩ : ∃ a, a = w5.heap.size := ⟨_, rfl⟩
  rw [← haw6] at HAw6 OB hbx ⊢
  unfold smpC at OB hbx
  have c0 := hbx.cell 0
  have c1 := hbx.cell 1
  have c2 := hbx.cell 2
  have c3 := hbx.cell 3
  have c4 := hbx.cell 4
  have c5 := hbx.cell 5
  clear HZ5 hw6 f0 f1 HA5 HB5 haw6 hbx
  go_wp2_with fail
  refine OB.out.mono ?_
  rintro e w7 ⟨rfl, hb7⟩
  have HAw7 := hide_ (HAw6.out.below hb7)
  have HBw7 := hide_ (HBw6.out.trans (hb7.mono HBw6.out.size))
  clear hb7 OB c0 c1 c2 c3 c4 c5 HAw6 HBw6
  unfold z8
  go_upto_region 10 with (fail)
  obtain ⟨w8, hw8⟩ : ∃ W, W = (w7.alloc (.cells #[.int .u32 7] 25)).setCell ⟨n0 + 4, 1, none⟩ (.slice (some ⟨w7.heap.size, 0, none⟩) 1 1) := ⟨_, rfl⟩
  have HAw8 := hide_ (show NmsAt (n0 + 4) [7] (smpK n0 w7.heap.size 1) w8 by
    rw [hw8]
    exact HAw7.out.put (j' := [7]) rfl rfl (by omega) rfl (by omega))
  have HBw8 := hide_ (show Below w.heap.size w w8 by rw [hw8]; exact (HBw7.out.alloc HBw7.out.size _).setCell (p := ⟨n0 + 4, 1, none⟩) (by show w.heap.size ≤ n0 + 4; omega) _)
  have f0 : (w7.alloc (.cells #[.int .u32 7] 25)).cell? ⟨n0 + 4, 1, none⟩ = some (.slice (some ⟨aw6, 0, none⟩) 2 2) := (HAw7.out.box.alloc _).cell 1
  have f1 : (w7.alloc (.cells #[.int .u32 7] 25)).frozen? ⟨n0 + 4, 1, none⟩ = false := (HAw7.out.box.alloc _).frozen 1
  go_upto_region 11 with (fail)
  rw [← hw8]
  have OB := hide_ (obj_good (smpJ [7]) (smpK n0 w7.heap.size 1) w8 (smpJ_ok _ (by decide) (by decide)) HAw8.out.rd (HT.out w8 HBw8.out) nms_4 _ nms_t)
  have hbx := HAw8.out.box
  rw [smpC_eq n0 w7.heap.size 1 [7] rfl] at OB hbx
  obtain ⟨aw8, haw8⟩ : ∃ a, a = w7.heap.size := ⟨_, rfl⟩
  rw [← haw8] at HAw8 OB hbx ⊢
  unfold smpC at OB hbx
  have c0 := hbx.cell 0
  have c1 := hbx.cell 1
  have c2 := hbx.cell 2
  have c3 := hbx.cell 3
  have c4 := hbx.cell 4
  have c5 := hbx.cell 5
  clear hw8 f0 f1 HAw7 HBw7 haw8 hbx
  have hyl : (objO (smpJ [7])).targets.length = 1 := by rw [nms_t]; rfl
  obtain ⟨y, hy⟩ : ∃ y, y = objO (smpJ [7]) := ⟨_, rfl⟩
  rw [← hy] at OB hyl
  clear hy
  have HZ8 := hide_ (show n0 + 4 < w8.heap.size from HAw8.out.box.lt)
  go_wp2_with fail
  refine OB.out.mono ?_
  rintro e w9 ⟨⟨⟨cA, cc⟩, ⟨dA, dc⟩, ⟨lA, lc⟩, ⟨fA, fc⟩, ⟨tA, tc⟩, ⟨eA, ec⟩⟩, rfl, ⟨tg, htA, htg1, htg2, htg3⟩, hb9⟩
  simp only at htA
  subst htA
  unfold objV
  dsimp only
  rw [hyl]
  have HAw9 := hide_ (HAw8.out.below hb9)
  have HBw9 := hide_ (HBw8.out.trans (hb9.mono HBw8.out.size))
  have HTG := hide_ (And.intro htg1 (And.intro htg2 htg3))
  obtain ⟨w10, hw10⟩ : ∃ W, W = w9.alloc (.cells #[.slice cA y.code.length cc, .slice dA y.data.length dc, .int .u32 y.zero, .int .u32 y.stack, .slice lA y.labels.length lc, .slice fA y.fixes.length fc, .slice (some ⟨tg, 0, none⟩) 1 tc, .slice eA y.entries.length ec] 36) := ⟨_, rfl⟩
  have HAw10 := hide_ (show NmsAt (n0 + 4) [7] (smpK n0 aw8 1) w10 by rw [hw10]; exact HAw9.out.below ((Below.refl _ _).alloc (Nat.le_refl _) _))
  have HBw10 := hide_ (show Below w.heap.size w w10 by rw [hw10]; exact HBw9.out.alloc HBw9.out.size _)
  have HO10 := hide_ (show Blk w10 w9.heap.size 36 #[.slice cA y.code.length cc, .slice dA y.data.length dc, .int .u32 y.zero, .int .u32 y.stack, .slice lA y.labels.length lc, .slice fA y.fixes.length fc, .slice (some ⟨tg, 0, none⟩) 1 tc, .slice eA y.entries.length ec] by rw [hw10]; exact Blk.new _ _ _)
  have HT10 := hide_ (show w10.cell? ⟨tg, 0, none⟩ = some (.string ⟨#[97, 116, 55]⟩) by rw [hw10]; exact (World.cell?_alloc_lt _ _ ⟨tg, 0, none⟩ htg2).trans htg3)
  have HZ9 := hide_ (show tg < w10.heap.size ∧ n0 + 4 < w9.heap.size ∧ n0 + 4 < tg by
    rw [hw10]
    have h1 := HZ8.out
    have h2 := hb9.size
    simp
    omega)
  clear htg1 htg2 htg3 hb9 OB c0 c1 c2 c3 c4 c5 HAw8 HBw8 HAw9 HBw9 HZ8 hyl HTG
  go_upto_region 12 with (fail)
  rw [← hw10]
  obtain ⟨q6, hq6⟩ : ∃ a, a = w9.heap.size := ⟨_, rfl⟩
  rw [← hq6] at HO10 HZ9 ⊢
  clear hw10 hq6
  obtain ⟨w11, hw11⟩ : ∃ W, W = (w10.alloc (.cells #[.int .u32 8] 25)).setCell ⟨n0 + 4, 1, none⟩ (.slice (some ⟨w10.heap.size, 0, none⟩) 1 1) := ⟨_, rfl⟩
  have HAw11 := hide_ (show NmsAt (n0 + 4) [8] (smpK n0 w10.heap.size 1) w11 by
    rw [hw11]
    exact HAw10.out.put (j' := [8]) rfl rfl (by omega) rfl (by omega))
  have HBw11 := hide_ (show Below w.heap.size w w11 by rw [hw11]; exact (HBw10.out.alloc HBw10.out.size _).setCell (p := ⟨n0 + 4, 1, none⟩) (by show w.heap.size ≤ n0 + 4; omega) _)
  have f0 : (w10.alloc (.cells #[.int .u32 8] 25)).cell? ⟨n0 + 4, 1, none⟩ = some (.slice (some ⟨aw8, 0, none⟩) 1 1) := (HAw10.out.box.alloc _).cell 1
  have f1 : (w10.alloc (.cells #[.int .u32 8] 25)).frozen? ⟨n0 + 4, 1, none⟩ = false := (HAw10.out.box.alloc _).frozen 1
  have HO11 := hide_ (show Blk w11 q6 36 _ by rw [hw11]; exact (HO10.out.alloc _).far (p := ⟨n0 + 4, 1, none⟩) (by have := HZ9.out; dsimp only; omega) _)
  have HT11 := hide_ (show w11.cell? ⟨tg, 0, none⟩ = some (.string ⟨#[97, 116, 55]⟩) by
    rw [hw11]
    exact (World.cell?_of_block (a := ⟨tg, 0, none⟩) (Below.heap_setCell _ _ _ _ (by have := HZ9.out; show tg ≠ n0 + 4; omega))).trans ((World.cell?_alloc_lt _ _ ⟨tg, 0, none⟩ HZ9.out.1).trans HT10.out))
  have HZ11 := hide_ (show tg < w11.heap.size by rw [hw11]; have := HZ9.out.1; simp [World.setCell]; omega)
  go_upto_region 13 with (fail)
  rw [← hw11]
  have OB := hide_ (obj_bad (smpJ [8]) (smpK n0 w10.heap.size 1) w11 (smpJ_ok _ (by decide) (by decide)) HAw11.out.rd (HT.out w11 HBw11.out) nms_2)
  have hbx := HAw11.out.box
  rw [smpC_eq n0 w10.heap.size 1 [8] rfl] at OB hbx
  obtain ⟨aw11, haw11⟩ : ∃ a, a = w10.heap.size := ⟨_, rfl⟩
  rw [← haw11] at HAw11 OB hbx ⊢
  unfold smpC at OB hbx
  have c0 := hbx.cell 0
  have c1 := hbx.cell 1
  have c2 := hbx.cell 2
  have c3 := hbx.cell 3
  have c4 := hbx.cell 4
  have c5 := hbx.cell 5
  clear hw11 f0 f1 HAw10 HBw10 haw11 hbx
  clear HO10 HT10
  go_wp2_with fail
  refine OB.out.mono ?_
  rintro e w12 ⟨rfl, hb12⟩
  have HAw12 := hide_ (HAw11.out.below hb12)
  have HBw12 := hide_ (HBw11.out.trans (hb12.mono HBw11.out.size))
  have HO12 := hide_ (HO11.out.below hb12 HO11.out.lt)
  have HT12 := hide_ ((hb12.cell (p := ⟨tg, 0, none⟩) HZ11.out).trans HT11.out)
  have HZ12 := hide_ (Nat.lt_of_lt_of_le HZ11.out hb12.size)
  clear hb12 OB c0 c1 c2 c3 c4 c5 HAw11 HBw11 HO11 HT11 HZ11
  obtain ⟨w13, hw13⟩ : ∃ W, W = w12.alloc (.cells z8 36) := ⟨_, rfl⟩
  have HAw13 := hide_ (show NmsAt (n0 + 4) [8] (smpK n0 aw11 1) w13 by rw [hw13]; exact HAw12.out.below ((Below.refl _ _).alloc (Nat.le_refl _) _))
  have HBw13 := hide_ (show Below w.heap.size w w13 by rw [hw13]; exact HBw12.out.alloc HBw12.out.size _)
  have k6 : w13.cell? ⟨q6, 6, none⟩ = some (.slice (some ⟨tg, 0, none⟩) 1 tc) := by rw [hw13]; exact (HO12.out.alloc _).cell 6
  have k7 : w13.cell? ⟨tg, 0, none⟩ = some (.string ⟨#[97, 116, 55]⟩) := by rw [hw13]; exact (World.cell?_alloc_lt _ _ ⟨tg, 0, none⟩ HZ12.out).trans HT12.out
  unfold z8 at hw13 ⊢
  clear HAw12 HBw12 HO12 HT12
  go_upto_region 14 with (fail)
  rw [← hw13]
  clear hw13
  go_wp2_with fail
  refine (sample2_any w13).mono ?_
  rintro e w14 ⟨rfl, hr14, hn14, hz14, hb14⟩
  have HAw14 := hide_ (HAw13.out.below hb14)
  have HBw14 := hide_ (HBw13.out.trans (hb14.mono HBw13.out.size))
  have hq13 := HAw13.out.box.lt
  obtain ⟨n1, hn1⟩ : ∃ n, n = w13.heap.size := ⟨_, rfl⟩
  rw [← hn1] at hr14 hn14 hz14 hq13 ⊢
  have hww : w.heap.size ≤ n0 + 4 := by omega
  obtain ⟨w15, hw15⟩ : ∃ W, W = w14.setRow (n0 + 4) (imgV smpI (smpS n1)) := ⟨_, rfl⟩
  have HBw15 := hide_ (show Below w.heap.size w w15 by rw [hw15]; exact below_setRow HBw14.out hww _)
  have HX15 := hide_ (show Blk w15 (n0 + 4) 28 (imgV smpI (smpS n1)) by rw [hw15]; exact setRow_heap _ _ _ _ _ _ HAw14.out.box)
  have HN15 := hide_ (show Blk w15 (n1 + 3) 44 #[.string ⟨#[109, 97, 105, 110]⟩, .int .u32 0] by rw [hw15]; exact (setRow_other _ _ _ _ (by omega)).trans hn14)
  have HR15 := hide_ (show Reads w15 w15.heap.size 2 (some ⟨n1 + 1, 0, none⟩) 7 (smpI.code.flatMap cE) ∧ Reads w15 w15.heap.size 1 (some ⟨n1 + 1 + 1, 0, none⟩) 1 (u32s smpI.jumps) by
    rw [hw15, size_setRow]
    exact ⟨reads_setRow hr14.rc (by omega), reads_setRow hr14.rj (by omega)⟩)
  have OO := hide_ (show (imgV smpI (smpS n1)).all (·.oneCell') = true by simp [imgV, Value.oneCell'])
  have hbx14 := hide_ HAw14.out.box
  have HNQ := hide_ (show n0 + 4 < n1 from hq13)
  clear hr14 hn14 hb14 hz14 hn1 hq13 HAw13 HBw13 HAw14 HBw14 k6 k7
  go_upto_region 17 with (first | (refine wpList_store_row rfl 28 (.tmp 5) (.tmp 79) rfl _ (imgV smpI (smpS n1)) rfl rfl 28 _ hbx14.out z6_sz rfl OO.out ?_))
  rw [← hw15]
  clear hw15
  have c5 : w15.cell? ⟨n0 + 4, 5, none⟩ = some (.slice (some ⟨n1 + 1 + 1 + 1, 0, none⟩) 1 1) := HX15.out.cell 5
  have d1 : w15.cell? ⟨n1 + 1 + 1 + 1, 1, none⟩ = some (.int .u32 0) := HN15.out.cell 1
  have d2 : w15.frozen? ⟨n1 + 1 + 1 + 1, 1, none⟩ = false := HN15.out.frozen 1
  obtain ⟨w16, hw16⟩ : ∃ W, W = w15.setCell ⟨n1 + 1 + 1 + 1, 1, none⟩ (.int .u32 8) := ⟨_, rfl⟩
  have HBw16 := hide_ (show Below w.heap.size w w16 by rw [hw16]; exact HBw15.out.setCell (p := ⟨n1 + 1 + 1 + 1, 1, none⟩) (by have := HNQ.out; show w.heap.size ≤ n1 + 1 + 1 + 1; omega) _)
  have hX16 : Blk w16 (n0 + 4) 28 (imgV smpN (smpS n1)) := by rw [hw16]; exact HX15.out.far (p := ⟨n1 + 1 + 1 + 1, 1, none⟩) (by have := HNQ.out; show n0 + 4 ≠ n1 + 1 + 1 + 1; omega) _
  have HR16 := hide_ (show ImgR w16 w16.heap.size smpN (smpS n1) by
    have hz : w16.heap.size = w15.heap.size := by rw [hw16]; simp [World.setCell]
    have hN : Blk w16 (n1 + 1 + 1 + 1) 44 #[.string ⟨#[109, 97, 105, 110]⟩, .int .u32 8] := by rw [hw16]; exact (show Blk w15 (n1 + 1 + 1 + 1) 44 #[.string ⟨#[109, 97, 105, 110]⟩, .int .u32 0] from HN15.out).set_ 1 (.int .u32 8)
    refine ⟨?_, ?_, ⟨rfl, fun h => absurd h (by decide)⟩, ⟨rfl, fun _ => ⟨⟨n1 + 1 + 1 + 1, 0, none⟩, rfl, hN.lt, fun j v hj => ?_⟩⟩, ?_⟩
    · rw [hz, hw16]
      exact reads_set_ne HR15.out.1 (by show n1 + 1 ≠ n1 + 1 + 1 + 1; omega)
    · rw [hz, hw16]
      exact reads_set_ne HR15.out.2 (by show n1 + 1 + 1 ≠ n1 + 1 + 1 + 1; omega)
    · rw [Lib.add_plain, hN.cell, Nat.zero_add, ← hj, show smpN.names.flatMap xE = [.string ⟨#[109, 97, 105, 110]⟩, .int .u32 8] from rfl]
      exact List.getElem?_toArray
    · exact ⟨Nat.le_refl 7, Nat.le_refl 1, Nat.le_refl 0, Nat.le_refl 1⟩)
  have TX := hide_ (lText_any smpN (smpS n1) w16 (by
    obtain ⟨h1, h2, h3, h4, h5, h6, h7⟩ := smp_ok
    exact ⟨h1, h2, h3, h4, h5, by decide, h7⟩) HR16.out (HT.out w16 HBw16.out))
  unfold TxtIs at TX
  rw [nms_x] at TX
  obtain ⟨tx, htx⟩ : ∃ t, t = txtS smpN := ⟨_, rfl⟩
  rw [← htx] at TX
  have eC : imgV smpN (smpS n1) = #[.slice (some ⟨n1 + 1, 0, none⟩) 7 7, .slice (some ⟨n1 + 1 + 1, 0, none⟩) 1 1, .slice none 0 0, .int .u32 4, .int .u32 64, .slice (some ⟨n1 + 1 + 1 + 1, 0, none⟩) 1 1] := rfl
  rw [eC] at TX hX16
  clear HX15 HN15 HR15 HR16 HBw15 eC htx hbx14 OO
  go_upto_region 18 with (fail)
  rw [← hw16]
  clear hw16 c5 d1 d2
  have c0 := hX16.cell 0
  have c1 := hX16.cell 1
  have c2 := hX16.cell 2
  have c3 := hX16.cell 3
  have c4 := hX16.cell 4
  have c5 := hX16.cell 5
  clear hX16
  go_wp2_with fail
  refine TX.out.mono ?_
  rintro e w17 ⟨rfl, hb17⟩
  have HBw17 := hide_ (HBw16.out.trans (hb17.mono HBw16.out.size))
  clear hb17 TX c0 c1 c2 c3 c4 c5 HBw16
  obtain ⟨w18, hw18⟩ : ∃ W, W = w17.alloc (.cells #[.int .u8 3, .int .u8 8, .int .u8 0, .int .u8 10, .int .u8 255, .int .u8 1] 5) := ⟨_, rfl⟩
  have HBw18 := hide_ (show Below w.heap.size w w18 by rw [hw18]; exact HBw17.out.alloc HBw17.out.size _)
  have D18 := hide_ (lDump_any (some ⟨w17.heap.size, 0, none⟩) 6 6 exB w18 (by
    rw [hw18]
    exact (reads_new w17 5 1 6 (u8s exB) rfl).more (by simp)) (Nat.le_refl _) nms_bytes (HT.out w18 HBw18.out) (HU.out w18 HBw18.out))
  rw [nms_d, nms_e] at D18
  have DB := hide_ (fun A c W => lDump_big A 65537 c W (by decide))
  go_upto_region 19 with (fail)
  go_wp2_with fail
  rw [← hw18]
  refine D18.out.mono ?_
  rintro e w19 ⟨rfl, hb19⟩
  have HBw19 := hide_ (HBw18.out.trans (hb19.mono HBw18.out.size))
  clear hb19 D18 hw18 HBw18 HBw17
  go_upto_region 20 with (fail)
  obtain ⟨i0, hi, hz0, hz1, hz2⟩ := info_parts bld_u8
  obtain ⟨wm, hmk, hmo, hmg⟩ := run_makeSlice_full w19 0 24 5 i0 _ 1 Tryz.underlying24 hi hz0 hz1 .i64 .i64 65537 (by decide) (by rw [hz2]; decide) (by decide) (Nat.zero_le _)
  have hmk2 : (Instr.makeSlice 24 (.int .i64 65537) (.int .i64 65537)).run Tryz.prog w19 = .ok (.slice (some ⟨w19.heap.size, 0, none⟩) 65537 65537) wm := hmk
  have HBm := hide_ (show Below w.heap.size w wm from HBw19.out.grown hmg HBw19.out.size (fun k hk => by cases hk))
  have DM := hide_ (DB.out (some ⟨w19.heap.size, 0, none⟩) 65537 wm)
  clear hmk hmo hmg DB hi hz0 hz1 hz2
  go_wp2_with fail
  refine DM.out.mono ?_
  rintro e w20 ⟨rfl, hb20⟩
  have HBF := hide_ (HBm.out.trans (hb20.mono HBm.out.size))
  clear hb20 DM
  go_wp2_with fail
  exact bodyPost_ret (v := .bool true) (by simp [results, Tryz.results7, go_sem]) rfl ⟨rfl, HBF.out⟩
theorem ListNames_raw (w : World) (hT : TabOk w) (hU : BruOk w) : Calls Tryz.prog 7 #[] w fun e w' => e = .returned (.bool true) ∧ Below w.heap.size w w' := ListNames_any w hT hU
end Go.Proofs.YtikbegmodacopaaGreatDoor
