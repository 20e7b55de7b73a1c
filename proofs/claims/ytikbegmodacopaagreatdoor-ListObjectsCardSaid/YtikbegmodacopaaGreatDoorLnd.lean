/-
  playpenlaw12.lend: an image in lists with marks behind them.
-/
import Derived.Test.YtikbegmodacopaaGreatDoorLndP
import Derived.Test.YtikbegmodacopaaGreatDoorC16
namespace Go.Proofs.YtikbegmodacopaaGreatDoor
open Go.RowKit Go.PlainAid Go.BigFrame
set_option linter.unusedSimpArgs false
set_option linter.unusedVariables false
set_option maxRecDepth 100000
theorem results_five {P : Program} {fn : Func} {p q r s t : Tmp} {ty : TypeId} (h : fn.results = #[.cell p ty, .tmp q, .tmp r, .tmp s, .tmp t]) (tmps : Array Value) (w : World) (g : Nat) (tt : TypeId) (cs : Array Value) (d : TypeDesc)
    (hp : tmps.getD p undef = .pointer (some ⟨g, 0, none⟩)) (hg : w.heap[g]? = some (.cells cs tt (0, 0)))
    (hu : P.underlying ty = some d) (hd : (match d with | .struct _ | .array _ _ => true | _ => false) = true) (hi : (P.info? ty).map (·.size) = some cs.size) {v1 v2 v3 v4 : Value} (h1 : tmps.getD q undef = v1) (h2 : tmps.getD r undef = v2) (h3 : tmps.getD s undef = v3) (h4 : tmps.getD t undef = v4) :
    (results fn tmps).run P w = .ok (.tuple #[.agg cs, v1, v2, v3, v4]) w := by
  have hp' : tmps[p]?.getD undef = .pointer (some ⟨g, 0, none⟩) := by simpa using hp
  have h1' : tmps[q]?.getD undef = v1 := by simpa using h1
  have h2' : tmps[r]?.getD undef = v2 := by simpa using h2
  have h3' : tmps[s]?.getD undef = v3 := by simpa using h3
  have h4' : tmps[t]?.getD undef = v4 := by simpa using h4
  simp [results, h, hp', h1', h2', h3', h4', asAddr, run_loadVar_row w g tt ty cs (0, 0) d hg hu hd hi]
set_option maxHeartbeats 16000000 in
theorem lend_any (x : ImgV) (s : ImgS) (w : World) (hx : ImgOk x) (hl : x.code.length * 8 ≤ 140737488351232 ∧ x.jumps.length * 4 ≤ 140737488351232 ∧ x.data.length * 1 ≤ 140737488351232 ∧ x.names.length * 24 ≤ 140737488351232) (hr : ImgR w w.heap.size x s) :
    Calls Tryz.prog 9 #[.agg (imgV x s)] w (LendPost x w) := by
  obtain ⟨i0, hi0, hz0, hz1, hz2⟩ := info_parts cx_info
  have HR := hide_ hr
  obtain ⟨W1, hW1⟩ : ∃ W, W = (w.alloc (.cells (imgV x s) 28)).alloc (.cells z6 28) := ⟨_, rfl⟩
  have HS1 := hide_ (show W1.heap.size = w.heap.size + 2 by rw [hW1]; simp)
  have HB1 := hide_ (show Below w.heap.size w W1 by rw [hW1]; exact ((Below.refl _ _).alloc (Nat.le_refl _) _).alloc (by simp) _)
  have HK0 := hide_ (show Blk W1 w.heap.size 28 (imgV x s) by rw [hW1]; exact (Blk.new w _ _).alloc _)
  have HK1 := hide_ (show Blk W1 (w.heap.size + 1) 28 z6 by
    have h := Blk.new (w.alloc (.cells (imgV x s) 28)) 28 z6
    rw [World.size_alloc] at h
    rw [hW1]; exact h)
  have HAT := hide_ (fun W (hb : Below W1.heap.size W1 W) => img_cells (HK0.out.below hb (by have := HS1.out; omega)))
  have HRES := hide_ (fun W (hb : Below W1.heap.size W1 W) => HK1.out.below hb (by have := HS1.out; omega))
  have FIN := hide_ (fun W (hb : Below W1.heap.size W1 W) => show Below w.heap.size w W from HB1.out.trans (hb.mono (by have := HS1.out; omega)))
  have HRR := hide_ (fun W (hb : Below W1.heap.size W1 W) => show ImgR W W.heap.size x s from (HR.out.below (FIN.out W hb)).more (by have := hb.size; have := HS1.out; omega))
  obtain ⟨l1, l2, l3, l4⟩ := hl
  have L3 := hide_ (show x.data.length ≤ 140737488351232 by omega)
  clear HR hr HK0 HK1 HB1 hx l3
  unfold imgV at hW1 ⊢
  obtain ⟨⟨cA, cc⟩, ⟨jA, jc⟩, ⟨dA, dc⟩, ⟨nA, nc⟩⟩ := s
  dsimp only at hW1 HAT HRR ⊢
  unfold z6 at hW1
  have HBW := hide_ (Below.refl W1.heap.size W1)
  have L1 := hide_ l1
  have L2 := hide_ l2
  have L4 := hide_ l4
  clear l1 l2 l4
  obtain ⟨f0, f1, f2, f3, f4, f5⟩ := HAT.out W1 HBW.out
  have hbz : w.heap.size < W1.heap.size := by have := HS1.out; omega
  go_enter Tryz.func9, Tryz.ntmps9
  go_upto_region 1 with (fail)
  rw [← hW1]
  clear hW1
  go_wp2_with fail
  refine (LentCode_any cA x.code.length cc W1.heap.size x.code W1 L1.out rfl (HRR.out W1 HBW.out).rc (Nat.le_refl _)).mono ?_
  rintro e w2 ⟨v, rfl, ho, hb⟩
  have HO2 := hide_ (Owns.push (Owns.nil_ (w := W1) (B := W1.heap.size)) hb (r := ⟨66, 2, v, x.code.length + 64, (x.code ++ marksC 64).flatMap cE⟩) ho (Nat.le_refl _))
  obtain ⟨AC, c1, rfl, hc1, _⟩ := ownsRow_slice ho
  have HB2 := hide_ hb
  clear f0 f1 f2 f3 f4 f5 hbz ho hb
  obtain ⟨f0, f1, f2, f3, f4, f5⟩ := HAT.out w2 HB2.out
  have hbz : w.heap.size < w2.heap.size := by have := HB2.out.size; have := HS1.out; omega
  go_wp2_with fail
  refine (LentWords_any jA x.jumps.length jc x.jumps w2.heap.size w2 (HRR.out w2 HB2.out).rj (Nat.le_refl _) L2.out).mono ?_
  rintro e w3 ⟨v, rfl, ho, hb⟩
  have HO3 := hide_ (HO2.out.push hb (r := ⟨25, 1, v, x.jumps.length + 64, u32s (x.jumps ++ marksW 64)⟩) ho HB2.out.size)
  obtain ⟨AJ, c2, rfl, hc2, _⟩ := ownsRow_slice ho
  have HB3 := hide_ (HB2.out.trans (hb.mono HB2.out.size))
  clear f0 f1 f2 f3 f4 f5 hbz ho hb HO2 HB2
  obtain ⟨f0, f1, f2, f3, f4, f5⟩ := HAT.out w3 HB3.out
  have hbz : w.heap.size < w3.heap.size := by have := HB3.out.size; have := HS1.out; omega
  go_wp2_with fail
  refine (LentBytes_any dA x.data.length dc x.data w3.heap.size w3 (HRR.out w3 HB3.out).rd (Nat.le_refl _) L3.out).mono ?_
  rintro e w4 ⟨v, rfl, ho, hb⟩
  have HO4 := hide_ (HO3.out.push hb (r := ⟨5, 1, v, x.data.length + 64, u8s (x.data ++ marks8 0 0 64)⟩) ho HB3.out.size)
  obtain ⟨AD, c3, rfl, hc3, _⟩ := ownsRow_slice ho
  have HB4 := hide_ (HB3.out.trans (hb.mono HB3.out.size))
  clear f0 f1 f2 f3 f4 f5 hbz ho hb HO3 HB3
  have HO := hide_ (HO4.out.nilrow 44 2)
  obtain ⟨XC, hXC⟩ : ∃ X, X = (x.code ++ marksC 64).flatMap cE := ⟨_, rfl⟩
  obtain ⟨XJ, hXJ⟩ : ∃ X, X = u32s (x.jumps ++ marksW 64) := ⟨_, rfl⟩
  obtain ⟨XD, hXD⟩ : ∃ X, X = u8s (x.data ++ marks8 0 0 64) := ⟨_, rfl⟩
  rw [← hXC, ← hXJ, ← hXD] at HO
  have HXC := hide_ hXC
  have HXJ := hide_ hXJ
  have HXD := hide_ hXD
  have HC := hide_ (show x.code.length + 64 ≤ c1 ∧ x.jumps.length + 64 ≤ c2 ∧ x.data.length + 64 ≤ c3 from ⟨hc1, hc2, hc3⟩)
  clear hXC hXJ hXD HO4 hc1 hc2 hc3
  go_wp2_with fail
  go_loopw [10, 11] (fun v i wr => ∃ (k : Nat) (sn : SL), k ≤ x.names.length ∧ i = .int .i64 k ∧ v = .slice sn.A k sn.c ∧ Hid (Owns wr W1.heap.size [⟨66, 2, .slice AC (x.code.length + 64) c1, x.code.length + 64, XC⟩, ⟨25, 1, .slice AJ (x.jumps.length + 64) c2, x.jumps.length + 64, XJ⟩, ⟨5, 1, .slice AD (x.data.length + 64) c3, x.data.length + 64, XD⟩, ⟨44, 2, .slice sn.A k sn.c, k, (x.names.take k).flatMap xE⟩]) ∧ Hid (Below W1.heap.size W1 wr)) (fun _ i _ => x.names.length - (intOf i).toNat)
  case atStart => exact ⟨0, ⟨none, 0⟩, Nat.zero_le _, rfl, rfl, HO, HB4⟩
  case round =>
    clear HO HB4
    obtain ⟨k, ⟨A0, c0⟩, hk, rfl, rfl, HO, HB⟩ := hrel
    dsimp only at HO ⊢
    obtain ⟨f0, f1, f2, f3, f4, f5⟩ := HAT.out wr HB.out
    have hbz : w.heap.size < wr.heap.size := by have := HB.out.size; have := HS1.out; omega
    by_cases hlt : k < x.names.length
    · obtain ⟨p, hp⟩ : ∃ p, x.names[k]? = some p := ⟨_, List.getElem?_eq_getElem hlt⟩
      obtain ⟨_, ad, rfl, hbk, p0, p1⟩ := el_cells xE_len (HRR.out wr HB.out).rn (by omega) hp
      have q0 := p0 _ rfl
      have q1 := p1 1 _ (by omega) rfl
      have NEXT := hide_ (show (x.names.take (k + 1)).flatMap xE = (x.names.take k).flatMap xE ++ xE p by rw [takeX_at hp, enc_snoc])
      have HK := hide_ (show k * 24 ≤ 140737488351232 by have := L4.out; omega)
      obtain ⟨nm, pa⟩ := p
      dsimp only at q0 q1
      clear p0 p1 hp
      go_wp2_with (at_builtin; refine wpList_append_owns _ rfl (.tmp 29) (.tmp 35) 26 rfl W1.heap.size _ 3 44 2 (.slice A0 k c0) k ((x.names.take k).flatMap xE) rfl (HO.out.alloc _) (by have := HB.out.size; simp; omega) i0 _ 24 Tryz.underlying26 hi0 hz0 hz1 hz2 rfl (by omega) rfl _ _ 1 1 [.string nm, .int .u32 pa] rfl (reads_new wr 44 2 1 [.string nm, .int .u32 pa] rfl) (by simp [Value.oneCell']) (by have := HK.out; simp only [maxLen]; omega) (by have := HK.out; omega) ?_)
      intro v1 w1 hO1 hb1 hsz1
      have h4 := hO1.at_ (i := 3) rfl
      dsimp only at h4
      obtain ⟨A9, c9, rfl, _, _⟩ := ownsRow_slice h4
      have HO1 := hide_ hO1
      have HB1 := hide_ ((HB.out.alloc HB.out.size _).trans hb1)
      clear hO1 hb1 hsz1 h4 q0 q1 f0 f1 f2 f3 f4 f5 hbk
      have hbd := L4.out
      go_wp2
      go_roundw
      case rel => exact ⟨k + 1, ⟨A9, c9⟩, by omega, by go_num, rfl, hide_ (by rw [NEXT.out]; exact HO1.out), HB1⟩
      case measure => simp [intOf] <;> omega
    · obtain rfl : k = x.names.length := by omega
      have HO2 := hide_ (show Owns wr W1.heap.size [⟨66, 2, .slice AC (x.code.length + 64) c1, x.code.length + 64, XC⟩, ⟨25, 1, .slice AJ (x.jumps.length + 64) c2, x.jumps.length + 64, XJ⟩, ⟨5, 1, .slice AD (x.data.length + 64) c3, x.data.length + 64, XD⟩, ⟨44, 2, .slice A0 x.names.length c0, x.names.length, x.names.flatMap xE⟩] by
        have h9 := HO.out
        rw [List.take_length] at h9
        exact h9)
      clear HO
      go_wp2_with (at_builtin; refine wpList_append_owns _ rfl (.tmp 37) (.tmp 39) 26 rfl W1.heap.size _ 3 44 2 (.slice A0 x.names.length c0) x.names.length (x.names.flatMap xE) rfl (HO2.out.alloc _) (by have := HB.out.size; simp; omega) i0 _ 24 Tryz.underlying26 hi0 hz0 hz1 hz2 rfl (by omega) rfl _ _ 1 1 [.string ⟨#[109, 97, 114, 107]⟩, .int .u32 77] rfl (reads_new wr 44 2 1 [.string ⟨#[109, 97, 114, 107]⟩, .int .u32 77] rfl) (by simp [Value.oneCell']) (by have := L4.out; simp only [maxLen]; omega) (by have := L4.out; omega) ?_)
      intro v1 w5 hO1 hb1 hsz1
      have h4 := hO1.at_ (i := 3) rfl
      dsimp only at h4
      obtain ⟨AN, c4, rfl, hc4, _⟩ := ownsRow_slice h4
      have HO5 := hide_ hO1
      have HB5 := hide_ ((HB.out.alloc HB.out.size _).trans hb1)
      clear hO1 hb1 hsz1 h4 f0 f1 f2 f3 f4 f5 hbz HO2 HB hlt hk
      obtain ⟨f0, f1, f2, f3, f4, f5⟩ := HAT.out w5 HB5.out
      have hbz : w.heap.size < w5.heap.size := by have := HB5.out.size; have := HS1.out; omega
      obtain ⟨hc1, hc2, hc3⟩ := HC.out
      have h1 : x.code.length ≤ c1 := by omega
      have h2 : x.jumps.length ≤ c2 := by omega
      have h3 : x.data.length ≤ c3 := by omega
      have h4 : x.names.length ≤ c4 := by omega
      have RS := hide_ (HRES.out (w5.alloc (.cells #[.slice AC x.code.length c1, .slice AJ x.jumps.length c2, .slice AD x.data.length c3, .int .u32 x.zero, .int .u32 x.stack, .slice AN x.names.length c4] 28)) (HB5.out.alloc HB5.out.size _))
      have OS := hide_ (show (Tryz.prog.info? 28).map (·.size) = some (#[.slice AC x.code.length c1, .slice AJ x.jumps.length c2, .slice AD x.data.length c3, .int .u32 x.zero, .int .u32 x.stack, .slice AN x.names.length c4] : Array Value).size from z6_sz)
      have OO := hide_ (show (#[.slice AC x.code.length c1, .slice AJ x.jumps.length c2, .slice AD x.data.length c3, .int .u32 x.zero, .int .u32 x.stack, .slice AN x.names.length c4] : Array Value).all (·.oneCell') = true by simp [Value.oneCell'])
      have FF := hide_ (show LendPost x w (.returned (lendV x ⟨⟨AC, c1⟩, ⟨AJ, c2⟩, ⟨AD, c3⟩, ⟨AN, c4⟩⟩)) ((w5.alloc (.cells #[.slice AC x.code.length c1, .slice AJ x.jumps.length c2, .slice AD x.data.length c3, .int .u32 x.zero, .int .u32 x.stack, .slice AN x.names.length c4] 28)).setRow (w.heap.size + 1) #[.slice AC x.code.length c1, .slice AJ x.jumps.length c2, .slice AD x.data.length c3, .int .u32 x.zero, .int .u32 x.stack, .slice AN x.names.length c4]) by
        refine ⟨_, rfl, ?_, below_setRow (FIN.out _ (HB5.out.alloc HB5.out.size _)) (by omega) _⟩
        have h9 := HO5.out
        rw [HXC.out, HXJ.out, HXD.out] at h9
        have h8 : Owns w5 W1.heap.size (lRows x ⟨⟨AC, c1⟩, ⟨AJ, c2⟩, ⟨AD, c3⟩, ⟨AN, c4⟩⟩) := by
          unfold lRows
          rw [enc_snoc]
          exact h9
        have hz := HS1.out
        exact ((h8.alloc _).keepB (fun k hk _ => setRow_other _ _ _ _ (by omega))).lo (by omega))
      clear HO5 HAT HRR
      go_wp2_with (first | (refine wpList_store_row rfl 28 (.tmp 2) (.tmp 66) rfl _ #[.slice AC x.code.length c1, .slice AJ x.jumps.length c2, .slice AD x.data.length c3, .int .u32 x.zero, .int .u32 x.stack, .slice AN x.names.length c4] rfl rfl 28 z6 RS.out OS.out rfl OO.out ?_))
      exact bodyPost_ret (v := lendV x ⟨⟨AC, c1⟩, ⟨AJ, c2⟩, ⟨AD, c3⟩, ⟨AN, c4⟩⟩) (results_five rfl _ _ (w.heap.size + 1) _ _ _ rfl (setRow_heap _ _ _ _ _ _ RS.out) Tryz.underlying28 rfl OS.out rfl rfl rfl rfl) rfl FF.out
end Go.Proofs.YtikbegmodacopaaGreatDoor
