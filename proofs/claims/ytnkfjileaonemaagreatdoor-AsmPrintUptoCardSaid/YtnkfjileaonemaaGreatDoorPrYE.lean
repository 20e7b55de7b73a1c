/-
  asm's printer: rest.
-/
import Derived.Test.YtnkfjileaonemaaGreatDoorPrYZ
import Derived.Test.YtnkfjileaonemaaGreatDoorPrQ
namespace Go.Proofs.YtnkfjileaonemaaGreatDoor
open Go.RowKit Go.PlainAid Go.BigFrame
set_option linter.unusedSimpArgs false
set_option linter.unusedVariables false
set_option maxRecDepth 100000
set_option maxHeartbeats 16000000 in
theorem prest_any (x : ObjV) (s : ObjS) (B g : Nat) (RL : List LabV) (RF : List FixV) (T : ByteArray) (w : World) (hx : ObjOk x) (hok : okB x = true) (hr : ObjR w B x s) (h : PrS B g (poOf x s) RL RF T w)
    (hTb : ∀ W, Below B w W → TabOk W) (hz : T.size + (restT x).size ≤ 140737488351232) :
    Calls Tryz.prog 36 #[.pointer (some ⟨g, 0, none⟩), .agg (objV x s)] w fun e w' => e = .returned (.tuple #[]) ∧ ZeroPost B g x s (T ++ restT x) w w' := by
  have HTB := hide_ hTb
  have HX := hide_ hx
  have HEN := hide_ (okB_ents hok)
  have HBL := hide_ h.low
  have HZS := hide_ hx.stack
  have HRL := hide_ hr.rl
  have HRT := hide_ hr.rt
  have HRE := hide_ hr.re
  obtain ⟨l1, l2, l3, l4, l5, l6⟩ := hx.lens
  obtain ⟨TT, hTT⟩ : ∃ t, t = T ++ restT x := ⟨_, rfl⟩
  have HZ := hide_ (show TT.size ≤ 140737488351232 by rw [hTT, ba_size]; exact hz)
  have HTT := hide_ (show T ++ stackT x ++ (cat (x.labels.map openT) ++ (cat (x.targets.map targT) ++ cat (x.entries.map entT))) = TT by rw [hTT, restT]; simp only [ba_assoc])
  have HS0 := hide_ h
  obtain ⟨po, hpo⟩ : ∃ p, p = poOf x s := ⟨_, rfl⟩
  unfold ZeroPost
  rw [← hpo] at HS0
  rw [← hpo, ← hTT]
  obtain ⟨⟨cA, cc⟩, ⟨dA, dc⟩, ⟨lA, lc⟩, ⟨fA, fc⟩, ⟨tA, tc⟩, ⟨eA, ec⟩⟩ := s
  dsimp only [objV] at HRL HRT HRE ⊢
  obtain ⟨n, hn⟩ : ∃ n, n = x.code.length := ⟨_, rfl⟩
  obtain ⟨nd, hnd⟩ : ∃ n, n = x.data.length := ⟨_, rfl⟩
  obtain ⟨nl, hnl⟩ : ∃ n, n = x.labels.length := ⟨_, rfl⟩
  obtain ⟨nf, hnf⟩ : ∃ n, n = x.fixes.length := ⟨_, rfl⟩
  obtain ⟨nt, hnt⟩ : ∃ n, n = x.targets.length := ⟨_, rfl⟩
  obtain ⟨ne, hne⟩ : ∃ n, n = x.entries.length := ⟨_, rfl⟩
  obtain ⟨z, hzr⟩ : ∃ z, z = x.zero := ⟨_, rfl⟩
  obtain ⟨sk, hsk⟩ : ∃ z, z = x.stack := ⟨_, rfl⟩
  rw [← hn, ← hnd, ← hnl, ← hnf, ← hnt, ← hne, ← hzr, ← hsk]
  rw [← hnl] at HRL l3
  rw [← hnt] at HRT l5
  rw [← hne] at HRE l6
  rw [← hsk] at HZS
  have HNL := hide_ hnl.symm
  have HNT := hide_ hnt.symm
  have HNE := hide_ hne.symm
  have HSK := hide_ hsk.symm
  have HS1 := hide_ (HS0.out.alloc (.cells #[.slice cA n cc, .slice dA nd dc, .int .u32 z, .int .u32 sk, .slice lA nl lc, .slice fA nf fc, .slice tA nt tc, .slice eA ne ec] 30))
  have HM1 := hide_ (PrM.alloc (g := g) HS0.out.low (.cells #[.slice cA n cc, .slice dA nd dc, .int .u32 z, .int .u32 sk, .slice lA nl lc, .slice fA nf fc, .slice tA nt tc, .slice eA ne ec] 30))
  have HX1 := hide_ (heap_alloc_new w (.cells #[.slice cA n cc, .slice dA nd dc, .int .u32 z, .int .u32 sk, .slice lA nl lc, .slice fA nf fc, .slice tA nt tc, .slice eA ne ec] 30))
  clear h hr hTb hz hok hx hTT hpo hn hnd hnl hnf hnt hne hzr hsk
  obtain ⟨w1, hw1⟩ : ∃ W, W = w.alloc (.cells #[.slice cA n cc, .slice dA nd dc, .int .u32 z, .int .u32 sk, .slice lA nl lc, .slice fA nf fc, .slice tA nt tc, .slice eA ne ec] 30) := ⟨_, rfl⟩
  go_enter Tryz.func36, Tryz.ntmps36
  go_upto_region 1 with (fail)
  rw [← hw1] at HS1 HM1 HX1 ⊢
  clear hw1
  have f3 : w1.cell? ⟨w.heap.size, 3, none⟩ = some (.int .u32 sk) := cell_of_row w1 _ 3 _ _ _ HX1.out
  have hbl := blk_lt HX1.out
  go_upto_if 12 with (fail)
  go_cut [] from 12 to 19 (fun wx => Hid (PrS B g po RL RF (T ++ stackT x) wx) ∧ Hid (PrM B g w wx) ∧ Hid (wx.heap[w.heap.size]? = some (.cells #[.slice cA n cc, .slice dA nd dc, .int .u32 z, .int .u32 sk, .slice lA nl lc, .slice fA nf fc, .slice tA nt tc, .slice eA ne ec] 30 (0, 0))))
  case first =>
    by_cases hs0 : sk = 0
    · have e0 : (sk != 0) = false := by simpa using hs0
      have HKS := hide_ (show stackT x = e0B by rw [stackT, if_pos (by rw [HSK.out]; exact hs0)])
      clear hs0
      go_wp2
      go_meet
      exact ⟨hide_ (by rw [HKS.out, ba_nil]; exact HS1.out), HM1, HX1⟩
    · have e0 : (sk != 0) = true := by simpa using hs0
      obtain ⟨m, hm⟩ : ∃ m : Nat, sk = (m : Int) := ⟨sk.toNat, by have := HZS.out; omega⟩
      have HKS := hide_ (show stackT x = ⟨#[115, 116, 97, 99, 107, 32]⟩ ++ decT m ++ ⟨#[10]⟩ by rw [stackT, if_neg (by rw [HSK.out]; exact hs0), HSK.out, hm, Int.toNat_natCast])
      have w64 : IntKind.u64.wrap sk = sk := IntWalk.u64_in _ (by have := HZS.out; omega)
      have HU : Hid (∀ W, TabOk W → Calls Tryz.prog 72 #[.int .u64 sk, .int .i64 10] W fun e w' => e = .returned (.string (decT m)) ∧ Below W.heap.size W w') := hide_ (fun W hW => by rw [hm]; exact Uint_any m (by have := HZS.out; omega) W hW)
      obtain ⟨DD, hD⟩ : ∃ D, D = decT m := ⟨_, rfl⟩
      rw [← hD] at HU HKS
      have HQ := hide_ (show T.size + (cat [⟨#[115, 116, 97, 99, 107, 32]⟩, DD]).size + 1 ≤ 140737488355328 by
        have h1 := congrArg ByteArray.size HTT.out
        rw [HKS.out] at h1
        simp only [ba_size] at h1
        simp only [cat, ba_size, show e0B.size = 0 from rfl]
        have : (⟨#[10]⟩ : ByteArray).size = 1 := rfl
        have := HZ.out
        omega)
      clear hs0 hD hm
      go_wp2_with fail
      refine (HU.out _ (HTB.out _ HM1.out.bel)).mono ?_
      rintro e w2 ⟨rfl, hb2⟩
      have HS2 := hide_ (HS1.out.below hb2)
      have HM2 := hide_ (HM1.out.trans (PrM.of_below HS1.out.low hb2))
      have HX2 := hide_ (blk_below HX1.out hb2)
      clear hb2 f3 hbl
      have HSA := hide_ (HS2.out.alloc (.cells #[.string ⟨#[115, 116, 97, 99, 107, 32]⟩, .string DD] 9))
      have HBA := hide_ (heap_alloc_new w2 (.cells #[.string ⟨#[115, 116, 97, 99, 107, 32]⟩, .string DD] 9))
      have HMA := hide_ (HM2.out.trans (PrM.alloc HS2.out.low (.cells #[.string ⟨#[115, 116, 97, 99, 107, 32]⟩, .string DD] 9)))
      have HXA := hide_ (blk_below HX2.out ((Below.refl w2.heap.size w2).alloc (Nat.le_refl _) (.cells #[.string ⟨#[115, 116, 97, 99, 107, 32]⟩, .string DD] 9)))
      go_wp2_with fail
      refine (line_any B g w2.heap.size _ _ _ _ [⟨#[115, 116, 97, 99, 107, 32]⟩, DD] 2 _ HSA.out HBA.out rfl (by decide) HQ.out).mono ?_
      rintro e w3 ⟨rfl, hS3, hM3⟩
      have HX3 := hide_ (hM3.blk HXA.out (HSA.out.ne_blk HXA.out (by decide)) (by decide))
      have HS3 := hide_ hS3
      have HM3 := hide_ (HMA.out.trans hM3)
      clear hS3 hM3
      go_wp2
      go_meet
      exact ⟨hide_ (by rw [HKS.out]; have h := HS3.out; simp only [cat, ba_nil, ba_assoc] at h ⊢; exact h), HM3, HX3⟩
  case rest =>
    obtain ⟨HS2, HM2, HX2⟩ := hcut
    clear HS1 HM1 HX1 f3 hbl
    have f4 : wc.cell? ⟨w.heap.size, 4, none⟩ = some (.slice lA nl lc) := cell_of_row wc _ 4 _ _ _ HX2.out
    have hbl := blk_lt HX2.out
    have HT0 := hide_ (show T ++ stackT x ++ (cat ((x.labels.drop 0).map openT) ++ (cat (x.targets.map targT) ++ cat (x.entries.map entT))) = TT by rw [List.drop_zero]; exact HTT.out)
    go_wp2
    go_loopw [23] (fun i wr => ∃ (k : Nat) (S : ByteArray), k ≤ nl ∧ i = .int .i64 k ∧ Hid (PrS B g po RL RF S wr) ∧ Hid (S ++ (cat ((x.labels.drop k).map openT) ++ (cat (x.targets.map targT) ++ cat (x.entries.map entT))) = TT) ∧ Hid (PrM B g w wr) ∧ Hid (wr.heap[w.heap.size]? = some (.cells #[.slice cA n cc, .slice dA nd dc, .int .u32 z, .int .u32 sk, .slice lA nl lc, .slice fA nf fc, .slice tA nt tc, .slice eA ne ec] 30 (0, 0)))) (fun i _ => nl - (intOf i).toNat)
    case atStart => exact ⟨0, _, Nat.zero_le _, rfl, HS2, HT0, HM2, HX2⟩
    case round =>
      clear HS2 HT0 HM2 HX2 f4 hbl
      obtain ⟨k, S, hk, rfl, HS, HT, HM, HBX⟩ := hrel
      by_cases hlt : k < nl
      · obtain ⟨⟨nm, lsec, lpl, lop⟩, ht⟩ : ∃ t, x.labels[k]? = some t := ⟨_, List.getElem?_eq_getElem (by have := HNL.out; omega)⟩
        have HDR := hide_ (drop_at ht)
        obtain ⟨_, ad, rfl, hbk, p0, p1⟩ := el_cells lE_len HRL.out (by omega) ht
        have x0 := (HM.out.bel.cell (p := ad.add (k * 4)) hbk).trans (p0 _ rfl)
        have x1 := (HM.out.bel.cell (p := ⟨(ad.add (k * 4)).block, (ad.add (k * 4)).off + 1, none⟩) hbk).trans (p1 1 _ (by omega) rfl)
        have x2 := (HM.out.bel.cell (p := ⟨(ad.add (k * 4)).block, (ad.add (k * 4)).off + 2, none⟩) hbk).trans (p1 2 _ (by omega) rfl)
        have x3 := (HM.out.bel.cell (p := ⟨(ad.add (k * 4)).block, (ad.add (k * 4)).off + 3, none⟩) hbk).trans (p1 3 _ (by omega) rfl)
        simp only at x0 x1 x2 x3
        have hbs : (ad.add (k * 4)).block < wr.heap.size := by have := HS.out.low; omega
        have HS3 := hide_ (HS.out.alloc (.cells #[.string nm, .int .u8 lsec, .int .u32 lpl, .bool lop] 45))
        have HM3 := hide_ (HM.out.trans (PrM.alloc HS.out.low (.cells #[.string nm, .int .u8 lsec, .int .u32 lpl, .bool lop] 45)))
        have HX3 := hide_ (blk_below HBX.out ((Below.refl wr.heap.size wr).alloc (Nat.le_refl _) (.cells #[.string nm, .int .u8 lsec, .int .u32 lpl, .bool lop] 45)))
        clear p0 p1 hbk ht
        have hT := HT.out
        rw [HDR.out, cat_map_cons, openT] at hT
        dsimp only at hT
        cases lop
        · rw [if_neg (by simp), nil_ba] at hT
          have HTE := hide_ hT
          clear hT
          go_wp2
          go_roundw
          case rel => exact ⟨k + 1, _, by omega, by go_num, HS3, HTE, HM3, HX3⟩
          case measure => simp [intOf]; omega
        · rw [if_pos rfl] at hT
          have HTE := hide_ (show (S ++ (cat [⟨#[111, 112, 101, 110, 32]⟩, nm] ++ ⟨#[10]⟩)) ++ (cat ((x.labels.drop (k + 1)).map openT) ++ (cat (x.targets.map targT) ++ cat (x.entries.map entT))) = TT by
            rw [← hT]
            simp only [cat, ba_nil, ba_assoc])
          clear hT
          have HQ := hide_ (show S.size + (cat [⟨#[111, 112, 101, 110, 32]⟩, nm]).size + 1 ≤ 140737488355328 by
            have h1 := congrArg ByteArray.size HTE.out
            simp only [ba_size] at h1
            have : (⟨#[10]⟩ : ByteArray).size = 1 := rfl
            have := HZ.out
            omega)
          obtain ⟨w3, hw3⟩ : ∃ W, W = wr.alloc (.cells #[.string nm, .int .u8 lsec, .int .u32 lpl, .bool true] 45) := ⟨_, rfl⟩
          have n0 : w3.cell? ⟨wr.heap.size, 0, none⟩ = some (.string nm) := by rw [hw3]; go_simp
          have hl3 : wr.heap.size < w3.heap.size := by rw [hw3]; simp
          go_upto_region 7 with (fail)
          rw [← hw3] at HS3 HM3 HX3 ⊢
          clear hw3 x0 x1 x2 x3 hbs
          have HSA := hide_ (HS3.out.alloc (.cells #[.string ⟨#[111, 112, 101, 110, 32]⟩, .string nm] 9))
          have HBA := hide_ (heap_alloc_new w3 (.cells #[.string ⟨#[111, 112, 101, 110, 32]⟩, .string nm] 9))
          have HMA := hide_ (HM3.out.trans (PrM.alloc HS3.out.low (.cells #[.string ⟨#[111, 112, 101, 110, 32]⟩, .string nm] 9)))
          have HXA := hide_ (blk_below HX3.out ((Below.refl w3.heap.size w3).alloc (Nat.le_refl _) (.cells #[.string ⟨#[111, 112, 101, 110, 32]⟩, .string nm] 9)))
          go_wp2_with fail
          refine (line_any B g w3.heap.size _ _ _ _ [⟨#[111, 112, 101, 110, 32]⟩, nm] 2 _ HSA.out HBA.out rfl (by decide) HQ.out).mono ?_
          rintro e w4 ⟨rfl, hS4, hM4⟩
          have HX4 := hide_ (hM4.blk HXA.out (HSA.out.ne_blk HXA.out (by decide)) (by decide))
          have HS4 := hide_ hS4
          have HM4 := hide_ (HMA.out.trans hM4)
          clear hS4 hM4
          clear n0 hl3
          go_wp2
          go_roundw
          case rel => exact ⟨k + 1, _, by omega, by go_num, HS4, HTE, HM4, HX4⟩
          case measure => simp [intOf]; omega
      · have HT0 := hide_ (show S ++ (cat ((x.targets.drop 0).map targT) ++ cat (x.entries.map entT)) = TT by
          have h := HT.out
          rw [List.drop_of_length_le (by have := HNL.out; omega), List.map_nil, cat, nil_ba] at h
          rw [List.drop_zero]
          exact h)
        have f6 : wr.cell? ⟨w.heap.size, 6, none⟩ = some (.slice tA nt tc) := cell_of_row wr _ 6 _ _ _ HBX.out
        have hbl := blk_lt HBX.out
        go_wp2
        go_loopw [38] (fun i wr => ∃ (k : Nat) (S : ByteArray), k ≤ nt ∧ i = .int .i64 k ∧ Hid (PrS B g po RL RF S wr) ∧ Hid (S ++ (cat ((x.targets.drop k).map targT) ++ cat (x.entries.map entT)) = TT) ∧ Hid (PrM B g w wr) ∧ Hid (wr.heap[w.heap.size]? = some (.cells #[.slice cA n cc, .slice dA nd dc, .int .u32 z, .int .u32 sk, .slice lA nl lc, .slice fA nf fc, .slice tA nt tc, .slice eA ne ec] 30 (0, 0)))) (fun i _ => nt - (intOf i).toNat)
        case atStart => exact ⟨0, _, Nat.zero_le _, rfl, HS, HT0, HM, HBX⟩
        case round =>
          clear HS HT0 HM HBX f6 hbl HT
          obtain ⟨k, S, hk, rfl, HS, HT, HM, HBX⟩ := hrel
          by_cases hlt : k < nt
          · obtain ⟨tg, ht⟩ : ∃ t, x.targets[k]? = some t := ⟨_, List.getElem?_eq_getElem (by have := HNT.out; omega)⟩
            have HDR := hide_ (drop_at ht)
            obtain ⟨b, o, rfl, hbk, hcl⟩ := reads_strs HRT.out (by omega)
            have x0 := (HM.out.bel.cell (p := ⟨b, o + k, none⟩) hbk).trans (hcl k tg ht)
            have hbs : b < wr.heap.size := by have := HS.out.low; omega
            have hT := HT.out
            rw [HDR.out, cat_map_cons, targT] at hT
            have HTE := hide_ (show (S ++ (cat [⟨#[116, 97, 114, 103, 101, 116, 32]⟩, tg] ++ ⟨#[10]⟩)) ++ (cat ((x.targets.drop (k + 1)).map targT) ++ cat (x.entries.map entT)) = TT by
              rw [← hT]
              simp only [cat, ba_nil, ba_assoc])
            clear hT hcl hbk ht
            have HQ := hide_ (show S.size + (cat [⟨#[116, 97, 114, 103, 101, 116, 32]⟩, tg]).size + 1 ≤ 140737488355328 by
              have h1 := congrArg ByteArray.size HTE.out
              simp only [ba_size] at h1
              have : (⟨#[10]⟩ : ByteArray).size = 1 := rfl
              have := HZ.out
              omega)
            have HSA := hide_ (HS.out.alloc (.cells #[.string ⟨#[116, 97, 114, 103, 101, 116, 32]⟩, .string tg] 9))
            have HBA := hide_ (heap_alloc_new wr (.cells #[.string ⟨#[116, 97, 114, 103, 101, 116, 32]⟩, .string tg] 9))
            have HMA := hide_ (HM.out.trans (PrM.alloc HS.out.low (.cells #[.string ⟨#[116, 97, 114, 103, 101, 116, 32]⟩, .string tg] 9)))
            have HXA := hide_ (blk_below HBX.out ((Below.refl wr.heap.size wr).alloc (Nat.le_refl _) (.cells #[.string ⟨#[116, 97, 114, 103, 101, 116, 32]⟩, .string tg] 9)))
            go_wp2_with fail
            refine (line_any B g wr.heap.size _ _ _ _ [⟨#[116, 97, 114, 103, 101, 116, 32]⟩, tg] 2 _ HSA.out HBA.out rfl (by decide) HQ.out).mono ?_
            rintro e w4 ⟨rfl, hS4, hM4⟩
            have HX4 := hide_ (hM4.blk HXA.out (HSA.out.ne_blk HXA.out (by decide)) (by decide))
            have HS4 := hide_ hS4
            have HM4 := hide_ (HMA.out.trans hM4)
            clear hS4 hM4
            clear x0 hbs
            go_wp2
            go_roundw
            case rel => exact ⟨k + 1, _, by omega, by go_num, HS4, HTE, HM4, HX4⟩
            case measure => simp [intOf]; omega
          · have HT0 := hide_ (show S ++ cat ((x.entries.drop 0).map entT) = TT by
              have h := HT.out
              rw [List.drop_of_length_le (by have := HNT.out; omega), List.map_nil, cat, nil_ba] at h
              rw [List.drop_zero]
              exact h)
            have f7 : wr.cell? ⟨w.heap.size, 7, none⟩ = some (.slice eA ne ec) := cell_of_row wr _ 7 _ _ _ HBX.out
            have hbl := blk_lt HBX.out
            go_wp2
            go_loopw [50] (fun i wr => ∃ (k : Nat) (S : ByteArray), k ≤ ne ∧ i = .int .i64 k ∧ Hid (PrS B g po RL RF S wr) ∧ Hid (S ++ cat ((x.entries.drop k).map entT) = TT) ∧ Hid (PrM B g w wr)) (fun i _ => ne - (intOf i).toNat)
            case atStart => exact ⟨0, _, Nat.zero_le _, rfl, HS, HT0, HM⟩
            case round =>
              clear HS HT0 HM HBX f7 hbl HT
              obtain ⟨k, S, hk, rfl, HS, HT, HM⟩ := hrel
              by_cases hlt : k < ne
              · obtain ⟨⟨en, el⟩, ht⟩ : ∃ t, x.entries[k]? = some t := ⟨_, List.getElem?_eq_getElem (by have := HNE.out; omega)⟩
                have HDR := hide_ (drop_at ht)
                have hen : en.size ≤ 2097152 := Nat.le_trans (HEN.out _ (List.mem_of_getElem? ht)) (by decide)
                obtain ⟨_, ad, rfl, hbk, p0, p1⟩ := el_cells eE_len HRE.out (by omega) ht
                have x0 := (HM.out.bel.cell (p := ad.add (k * 2)) hbk).trans (p0 _ rfl)
                have x1 := (HM.out.bel.cell (p := ⟨(ad.add (k * 2)).block, (ad.add (k * 2)).off + 1, none⟩) hbk).trans (p1 1 _ (by omega) rfl)
                simp only at x0 x1
                have hbs : (ad.add (k * 2)).block < wr.heap.size := by have := HS.out.low; omega
                have HS3 := hide_ (HS.out.alloc (.cells #[.string en, .string el] 49))
                have HM3 := hide_ (HM.out.trans (PrM.alloc HS.out.low (.cells #[.string en, .string el] 49)))
                have HX3 := hide_ (heap_alloc_new wr (.cells #[.string en, .string el] 49))
                obtain ⟨w3, hw3⟩ : ∃ W, W = wr.alloc (.cells #[.string en, .string el] 49) := ⟨_, rfl⟩
                go_upto_region 17 with (fail)
                rw [← hw3] at HS3 HM3 HX3 ⊢
                clear hw3 x0 x1 hbs p0 p1 hbk
                obtain ⟨cap, W2, hcv, hrd, hb2, hsz2⟩ := bytes_of_txt w3.drew en
                have HSH := hide_ (fun W (hw : Below W2.heap.size W2 W) => tShow_any _ en.size cap _ (w3.heap.size + 1) W (hrd.below (hw.mono hsz2)) (Nat.le_trans hsz2 hw.size) hen (numsB_byte en))
                obtain ⟨sh, hsh⟩ : ∃ a, a = strOfNums (showL (numsB en)) := ⟨_, rfl⟩
                rw [← hsh] at HSH
                have hT := HT.out
                rw [HDR.out, cat_map_cons, entT, showT] at hT
                dsimp only at hT
                rw [← hsh] at hT
                have HTE := hide_ (show (S ++ (cat [⟨#[101, 110, 116, 114, 121, 32]⟩, sh, ⟨#[44, 32]⟩, el] ++ ⟨#[10]⟩)) ++ cat ((x.entries.drop (k + 1)).map entT) = TT by
                  rw [← hT]
                  simp only [cat, ba_nil, ba_assoc])
                have HQ := hide_ (show S.size + (cat [⟨#[101, 110, 116, 114, 121, 32]⟩, sh, ⟨#[44, 32]⟩, el]).size + 1 ≤ 140737488355328 by
                  have h1 := congrArg ByteArray.size HTE.out
                  simp only [ba_size] at h1
                  have : (⟨#[10]⟩ : ByteArray).size = 1 := rfl
                  have := HZ.out
                  omega)
                have hb3 : Below w3.heap.size w3 W2 := (Below.refl w3.heap.size w3).drew.trans hb2
                have n0 : w3.cell? ⟨wr.heap.size, 0, none⟩ = some (.string en) := cell_of_row w3 _ 0 _ _ _ HX3.out
                have n1 : w3.cell? ⟨wr.heap.size, 1, none⟩ = some (.string el) := cell_of_row w3 _ 1 _ _ _ HX3.out
                have hl3 := blk_lt HX3.out
                have r1 := (hb3.cell (p := ⟨wr.heap.size, 1, none⟩) hl3).trans n1
                have hl2 := Nat.lt_of_lt_of_le hl3 hb3.size
                have HB3 := hide_ hb3
                clear hT hsh hrd hen hb2 hb3 ht
                go_region_with (first
                  | (go_at_call 70; refine (HSH.out _ (Below.refl _ _)).mono ?_; rintro e w8 ⟨rfl, hb8⟩; have hbd := HB3.out.trans (hb8.mono HB3.out.size); have q1 := (hbd.cell (p := ⟨wr.heap.size, 1, none⟩) hl3).trans n1; have hl8 := Nat.lt_of_lt_of_le hl3 hbd.size; have HS8 := hide_ (HS3.out.below hbd); have HM8 := hide_ (HM3.out.trans (PrM.of_below HS3.out.low hbd)); clear hb8 hbd; have HSA := hide_ (HS8.out.alloc (.cells #[.string ⟨#[101, 110, 116, 114, 121, 32]⟩, .string sh, .string ⟨#[44, 32]⟩, .string el] 9)); have HBA := hide_ (heap_alloc_new w8 (.cells #[.string ⟨#[101, 110, 116, 114, 121, 32]⟩, .string sh, .string ⟨#[44, 32]⟩, .string el] 9)); have HMA := hide_ (HM8.out.trans (PrM.alloc HS8.out.low (.cells #[.string ⟨#[101, 110, 116, 114, 121, 32]⟩, .string sh, .string ⟨#[44, 32]⟩, .string el] 9))))
                  | (go_at_call 63; refine (line_any B g w8.heap.size _ _ _ _ [⟨#[101, 110, 116, 114, 121, 32]⟩, sh, ⟨#[44, 32]⟩, el] 4 _ HSA.out HBA.out rfl (by decide) HQ.out).mono ?_; rintro e w9 ⟨rfl, hS9, hM9⟩; have HS9 := hide_ hS9; have HM9 := hide_ (HMA.out.trans hM9); clear hS9 hM9))
                all_goals
                  clear n0 n1 hl3 r1 hl2 q1 hl8 hcv
                  go_wp2
                  go_roundw
                  case rel => exact ⟨k + 1, _, by omega, by go_num, HS9, HTE, HM9⟩
                  case measure => simp [intOf]; omega
              · have HFIN := hide_ (show ∃ RL' RF', PrS B g po RL' RF' TT wr ∧ PrM B g w wr from by
                  refine ⟨RL, RF, ?_, HM.out⟩
                  have h := HT.out
                  rw [List.drop_of_length_le (by have := HNE.out; omega), List.map_nil, cat, ba_nil] at h
                  rw [← h]
                  exact HS.out)
                go_wp2
                go_end0
                exact ⟨rfl, HFIN.out⟩
end Go.Proofs.YtnkfjileaonemaaGreatDoor
