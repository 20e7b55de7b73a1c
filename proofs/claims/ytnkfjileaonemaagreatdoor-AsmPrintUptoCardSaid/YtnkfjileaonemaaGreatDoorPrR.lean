/-
  The document's labelsAt, has, marked, fixAt.
-/
import Derived.Test.YtnkfjileaonemaaGreatDoorPrP
namespace Go.Proofs.YtnkfjileaonemaaGreatDoor
open Go.RowKit Go.PlainAid Go.BigFrame
set_option linter.unusedSimpArgs false
set_option linter.unusedVariables false
set_option maxRecDepth 100000

theorem drop_at {α : Type} {l : List α} {k : Nat} {a : α} (h : l[k]? = some a) : l.drop k = a :: l.drop (k + 1) := by
  obtain ⟨hk, rfl⟩ := List.getElem?_eq_some_iff.1 h
  exact List.drop_eq_getElem_cons hk
theorem atL_cons (l : LabV) (R : List LabV) (sec at_ : Int) : atL (l :: R) sec at_ = if labAt sec at_ l = true then labLn l ++ atL R sec at_ else atL R sec at_ := by
  unfold atL
  rw [List.filter_cons]
  split <;> rfl
set_option maxHeartbeats 4000000 in
theorem labelsAt_any (x : ObjV) (s : ObjS) (B : Nat) (sec pl : Int) (w : World) (hx : ObjOk x) (hr : ObjR w B x s) (hBw : B ≤ w.heap.size) (hz : (atL x.labels sec pl).size ≤ 140737488351232) :
    Calls Tryz.prog 57 #[.agg (objV x s), .int .u8 sec, .int .u32 pl] w fun e w' => e = .returned (.string (atL x.labels sec pl)) ∧ Below w.heap.size w w' := by
  obtain ⟨⟨cA, cc⟩, ⟨dA, dc⟩, ⟨lA, lc⟩, ⟨fA, fc⟩, ⟨tA, tc⟩, ⟨eA, ec⟩⟩ := s
  have HRC := hide_ hr.rc
  have HRD := hide_ hr.rd
  have HRL := hide_ hr.rl
  have HRF := hide_ hr.rf
  have HRT := hide_ hr.rt
  have HRE := hide_ hr.re
  obtain ⟨l1, l2, l3, l4, l5, l6⟩ := hx.lens
  have HX := hide_ hx
  dsimp only [objV] at HRC HRD HRL HRF HRT HRE ⊢
  obtain ⟨n, hn⟩ : ∃ n, n = x.code.length := ⟨_, rfl⟩
  obtain ⟨nd, hnd⟩ : ∃ n, n = x.data.length := ⟨_, rfl⟩
  obtain ⟨nl, hnl⟩ : ∃ n, n = x.labels.length := ⟨_, rfl⟩
  obtain ⟨nf, hnf⟩ : ∃ n, n = x.fixes.length := ⟨_, rfl⟩
  obtain ⟨nt, hnt⟩ : ∃ n, n = x.targets.length := ⟨_, rfl⟩
  obtain ⟨ne, hne⟩ : ∃ n, n = x.entries.length := ⟨_, rfl⟩
  obtain ⟨z, hzr⟩ : ∃ z, z = x.zero := ⟨_, rfl⟩
  obtain ⟨sk, hsk⟩ : ∃ z, z = x.stack := ⟨_, rfl⟩
  rw [← hn, ← hnd, ← hnl, ← hnf, ← hnt, ← hne, ← hzr, ← hsk]
  rw [← hn] at HRC l1
  rw [← hnd] at HRD l2
  rw [← hnl] at HRL l3
  rw [← hnf] at HRF l4
  rw [← hnt] at HRT l5
  rw [← hne] at HRE l6
  have HN := hide_ hn.symm
  have HND := hide_ hnd.symm
  have HNL := hide_ hnl.symm
  have HNF := hide_ hnf.symm
  have HNT := hide_ hnt.symm
  have HNE := hide_ hne.symm
  have HZ := hide_ hzr.symm
  have HSK := hide_ hsk.symm
  clear hr hx hn hnd hnl hnf hnt hne hzr hsk
  obtain ⟨T, hT⟩ : ∃ T, T = atL x.labels sec pl := ⟨_, rfl⟩
  rw [← hT] at hz ⊢
  have HT := hide_ hT.symm
  have HBW := hide_ hBw
  have HSZ := hide_ hz
  clear hT hz hBw
  obtain ⟨W1, hW1⟩ : ∃ W, W = w.alloc (.cells #[.slice cA n cc, .slice dA nd dc, .int .u32 z, .int .u32 sk, .slice lA nl lc, .slice fA nf fc, .slice tA nt tc, .slice eA ne ec] 30) := ⟨_, rfl⟩
  have f4 : W1.cell? ⟨w.heap.size, 4, none⟩ = some (.slice lA nl lc) := by rw [hW1]; go_simp
  have HB1 := hide_ (show Below w.heap.size w W1 by rw [hW1]; exact (Below.refl _ _).alloc (Nat.le_refl _) _)
  have hlt0 : w.heap.size < W1.heap.size := by rw [hW1]; simp
  go_enter Tryz.func57, Tryz.ntmps57
  go_upto_region 1 with (fail)
  rw [← hW1]
  clear hW1
  go_wp2
  go_loopw [7, 8] (fun s i wr => ∃ (k : Nat) (S : ByteArray), k ≤ nl ∧ s = .string S ∧ i = .int .i64 k ∧ S ++ atL (x.labels.drop k) sec pl = T ∧ Drew W1 wr) (fun _ i _ => nl - (intOf i).toNat)
  case atStart => exact ⟨0, e0B, Nat.zero_le _, rfl, rfl, by rw [List.drop_zero, nil_ba, HT.out], Drew.refl W1⟩
  case round =>
    obtain ⟨k, S, hk, rfl, rfl, hS, hd⟩ := hrel
    have HD := hide_ hd
    have f4 := (hd.cell _).trans f4
    have hlt0 : w.heap.size < wr.heap.size := by rw [hd.size]; exact hlt0
    have HBR := hide_ (HB1.out.trans (hd.below _))
    clear hd
    have HS := hide_ hS
    clear hS
    by_cases hlt : k < nl
    · obtain ⟨⟨nm, lsec, lpl, lop⟩, ht⟩ : ∃ t, x.labels[k]? = some t := ⟨_, List.getElem?_eq_getElem (by have := HNL.out; omega)⟩
      have HDR := hide_ (drop_at ht)
      obtain ⟨_, ad, rfl, hbk, p0, p1⟩ := el_cells lE_len (HRL.out.below (HBR.out.mono HBW.out)) (by omega) ht
      have x0 := p0 _ rfl
      have x1 := p1 1 _ (by omega) rfl
      have x2 := p1 2 _ (by omega) rfl
      simp only at x0 x1 x2
      have hbs : (ad.add (k * 4)).block < wr.heap.size := by have := HBW.out; have := HBR.out.size; omega
      clear p0 p1 ht hbk
      by_cases h1 : lsec = sec
      · subst h1
        by_cases h2 : lpl = pl
        · subst h2
          have hS := HS.out
          rw [HDR.out, atL_cons, if_pos (by simp [labAt])] at hS
          have HS2 := hide_ (show (S ++ nm ++ ⟨#[58, 10]⟩) ++ atL (x.labels.drop (k + 1)) lsec lpl = T by rw [← hS, labLn]; simp only [ba_assoc])
          have hss := congrArg ByteArray.size HS2.out
          have hs2 : (⟨#[58, 10]⟩ : ByteArray).size = 2 := rfl
          rw [ba_size, ba_size, ba_size, hs2] at hss
          have hm1 : ¬ (9223372036854775807 : Int) < (S.size : Int) + (nm.size : Int) := by have := HSZ.out; omega
          have hm2 : ¬ 9223372036854775807 < S.size + nm.size + 2 := by have := HSZ.out; omega
          clear hS hss hs2
          go_wp2
          go_roundw
          case rel => exact ⟨k + 1, _, by omega, rfl, by go_num, HS2.out, HD.out⟩
          case measure => simp [intOf]; omega
        · have e2 : (lpl == pl) = false := by simpa using h2
          have hS := HS.out
          rw [HDR.out, atL_cons, if_neg (by simp [labAt, h2])] at hS
          have HS2 := hide_ hS
          clear hS h2
          go_wp2
          go_roundw
          case rel => exact ⟨k + 1, _, by omega, rfl, by go_num, HS2.out, HD.out⟩
          case measure => simp [intOf]; omega
      · have e1 : (lsec == sec) = false := by simpa using h1
        have hS := HS.out
        rw [HDR.out, atL_cons, if_neg (by simp [labAt, h1])] at hS
        have HS2 := hide_ hS
        clear hS h1
        go_wp2
        go_roundw
        case rel => exact ⟨k + 1, _, by omega, rfl, by go_num, HS2.out, HD.out⟩
        case measure => simp [intOf]; omega
    · obtain rfl : k = nl := by omega
      have HF := hide_ (show S = T by
        have h := HS.out
        rw [List.drop_of_length_le (by have := HNL.out; omega), atL_nil, ba_nil] at h
        exact h)
      go_wp2
      go_ret
      exact ⟨by rw [HF.out]; rfl, HBR.out⟩
end Go.Proofs.YtnkfjileaonemaaGreatDoor
