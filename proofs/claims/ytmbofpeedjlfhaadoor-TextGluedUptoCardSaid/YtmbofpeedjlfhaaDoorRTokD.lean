/-
  The walks of the document's literal, token, Tokens.
-/
import Derived.Test.YtmbofpeedjlfhaaDoorRTokB
import Derived.Test.YtmbofpeedjlfhaaDoorRTokC
import Derived.Test.YtmbofpeedjlfhaaDoorBytesR
import Derived.Test.YtmbofpeedjlfhaaDoorTokE
namespace Go.Proofs.YtmbofpeedjlfhaaDoor
open Go.RowKit Go.PlainAid Go.BigFrame
set_option linter.unusedVariables false
set_option maxRecDepth 100000

/-- what the document's token answers: the token where there is no error, else the place -/
def RTokIs (s : ByteArray) (i : Nat) (x : Int × Int × Int) (w : World) (e : Ending) (w' : World) : Prop :=
  ∃ (k a : Int) (T : ByteArray) (p : Int), e = .returned (.tuple #[.agg #[.int .u8 k, .int .i64 a, .string T], .int .i64 p, .int .i64 x.2.2]) ∧ (x.2.2 = 0 → k = x.1 ∧ a = i ∧ T = s.extract i x.2.1.toNat) ∧ (x.2.2 ≠ 0 → p = x.2.1) ∧ Below w.heap.size w w'
theorem rtok_ok {s : ByteArray} {i : Nat} {k : Int} {q : Nat} {p : Int} {w w' : World} (hb : Below w.heap.size w w') : RTokIs s i (k, (q : Int), 0) w (.returned (.tuple #[.agg #[.int .u8 k, .int .i64 i, .string (s.extract i q)], .int .i64 p, .int .i64 0])) w' :=
  ⟨k, i, s.extract i q, p, rfl, fun _ => ⟨rfl, rfl, rfl⟩, fun h => absurd rfl h, hb⟩
theorem rtok_no {s : ByteArray} {i : Nat} {k' k a p er : Int} {T : ByteArray} {w w' : World} (her : er ≠ 0) (hb : Below w.heap.size w w') : RTokIs s i (k', p, er) w (.returned (.tuple #[.agg #[.int .u8 k, .int .i64 a, .string T], .int .i64 p, .int .i64 er])) w' :=
  ⟨k, a, T, p, rfl, fun h => absurd h her, fun _ => rfl, hb⟩
theorem rtok_lit {s : ByteArray} {i e : Nat} {X : Int × Int × Int} {K p er : Int} {w w' : World} (hX : X = if er ≠ 0 then (K, p, er) else (K, (e : Int), (0 : Int))) (hb : Below w.heap.size w w') : RTokIs s i X w (.returned (.tuple #[.agg #[.int .u8 K, .int .i64 i, .string (s.extract i e)], .int .i64 p, .int .i64 er])) w' := by
  by_cases h : er = 0
  · subst h
    rw [hX, if_neg (by simp)]
    exact rtok_ok hb
  · rw [hX, if_pos h]
    exact rtok_no h hb
abbrev tokZ : Array Value := #[.int .u8 0, .int .i64 0, .string ⟨#[]⟩]
set_option maxHeartbeats 2000000 in
theorem rliteral_any (s : ByteArray) (i : Nat) (w : World) (hz : s.size ≤ 140737488351232) (hi : i < s.size) (hq : bn s i = 34 ∨ bn s i = 39) :
    Calls Tryd.prog 84 #[.string s, .int .i64 i] w (RTokIs s i (litN s i) w) := by
  have hbt := get_bt s
  have HBI := hide_ (bt_eq s i hi)
  have HLE := hide_ (fun W => litEnd_any s i W hz hi hq)
  have HBK := hide_ (Blk.new w 36 tokZ)
  have HB0 := hide_ ((Below.refl _ w).alloc (Nat.le_refl _) (.cells tokZ 36))
  obtain ⟨X, hX⟩ : ∃ X, X = litN s i := ⟨_, rfl⟩
  rw [← hX]
  cases hl : litE s i with
  | none =>
    have HE := hide_ (show X = ((if bn s i = 34 then 3 else 4), (i : Int), 11) by rw [hX]; unfold litN; simp only [hl])
    rw [litZ_none s i hl] at HLE
    clear hX hl hq
    go_enter Tryd.func84, Tryd.ntmps84
    go_wp2_with fail
    refine (HLE.out _).mono ?_
    rintro e w2 ⟨rfl, rfl⟩
    go_wp2
    exact bodyPost_ret (v := .tuple #[.agg #[.int .u8 0, .int .i64 0, .string ⟨#[]⟩], .int .i64 i, .int .i64 11]) (by simp [results, Tryd.results84, go_sem]) rfl (by rw [HE.out]; exact rtok_no (by decide) HB0.out)
  | some e =>
    have hb := litE_bd s i e hl
    rw [litZ_some s i e hl] at HLE
    obtain ⟨t, ht⟩ : ∃ t, t = s.extract i e := ⟨_, rfl⟩
    have hts : t.size = e - i := by rw [ht, ByteArray.size_extract]; omega
    have d0 : decide ((e : Int) < 0) = false := decide_eq_false (by omega)
    by_cases h34 : bn s i = 34
    · have d34 : (bt s i == 34) = true := by rw [HBI.out]; simp; omega
      have hby := fun W => rbytes_any t W (by omega)
      have hpb := bytesN_bd t
      have hXX : X = if (bytesN t).2.2 ≠ 0 then ((3 : Int), (i : Int) + (bytesN t).2.1, (bytesN t).2.2) else ((3 : Int), (e : Int), (0 : Int)) := by
        rw [hX]
        unfold litN
        rw [hl]
        simp only [if_pos h34, ← ht]
      obtain ⟨O, P, E, hBN⟩ : ∃ O P E, bytesN t = (O, P, E) := ⟨_, _, _, rfl⟩
      rw [hBN] at hby hpb hXX
      simp only at hpb hXX
      have HBY := hide_ hby
      have HT := hide_ ht
      have HXX := hide_ hXX
      have hp0 : 0 ≤ P := hpb.1
      have hp1 : (i : Int) + P ≤ 140737488351240 := by omega
      have HTI : Hid (i ≤ e ∧ e ≤ s.size) := hide_ (by omega)
      have hie : i ≤ e := by omega
      have hes : e ≤ s.size := by omega
      clear hby hXX hBN h34 hl hX hq hts hpb
      go_enter Tryd.func84, Tryd.ntmps84
      go_wp2_with fail
      refine (HLE.out _).mono ?_
      rintro e2 w2 ⟨rfl, rfl⟩
      go_wp2_with fail
      rw [← HT.out]
      refine (HBY.out _).mono ?_
      rintro e2 w2 ⟨v, rfl, _, hb2⟩
      have HBK2 := HBK.out.below hb2 (by simp)
      have hg2 := HBK2.lt
      have c0 := HBK2.cell 0
      have c1 := HBK2.cell 1
      have c2 := HBK2.cell 2
      have f0 := HBK2.frozen 0
      have f1 := HBK2.frozen 1
      have f2 := HBK2.frozen 2
      have HB2 := hide_ (HB0.out.trans (hb2.mono (by simp)))
      simp only [tokZ] at c0 c1 c2
      clear hb2 HBK2
      go_wp2
      exact bodyPost_ret (v := .tuple #[.agg #[.int .u8 3, .int .i64 i, .string (s.extract i e)], .int .i64 (i + P), .int .i64 E]) (by simp [results, Tryd.results84, go_sem, c0, c1, c2]) rfl (rtok_lit HXX.out (((HB2.out.setCell (Nat.le_refl _) _).setCell (Nat.le_refl _) _).setCell (Nat.le_refl _) _))
    · have d34 : (bt s i == 34) = false := by rw [HBI.out]; simp; omega
      have hby := fun W => rrune_any t W (by omega)
      have hpb := runeN_bd t
      have hXX : X = if (runeN t).2.2 ≠ 0 then ((4 : Int), (i : Int) + (runeN t).2.1, (runeN t).2.2) else ((4 : Int), (e : Int), (0 : Int)) := by
        rw [hX]
        unfold litN
        rw [hl]
        simp only [if_neg h34, ← ht]
      obtain ⟨O, P, E, hBN⟩ : ∃ O P E, runeN t = (O, P, E) := ⟨_, _, _, rfl⟩
      rw [hBN] at hby hpb hXX
      simp only at hpb hXX
      have HBY := hide_ hby
      have HT := hide_ ht
      have HXX := hide_ hXX
      have hp0 : 0 ≤ P := hpb.1
      have hp1 : (i : Int) + P ≤ 140737488351240 := by omega
      have HTI : Hid (i ≤ e ∧ e ≤ s.size) := hide_ (by omega)
      have hie : i ≤ e := by omega
      have hes : e ≤ s.size := by omega
      clear hby hXX hBN h34 hl hX hq hts hpb
      go_enter Tryd.func84, Tryd.ntmps84
      go_wp2_with fail
      refine (HLE.out _).mono ?_
      rintro e2 w2 ⟨rfl, rfl⟩
      go_wp2_with fail
      rw [← HT.out]
      refine (HBY.out _).mono ?_
      rintro e2 w2 ⟨rfl, hb2⟩
      have HBK2 := HBK.out.below hb2 (by simp)
      have hg2 := HBK2.lt
      have c0 := HBK2.cell 0
      have c1 := HBK2.cell 1
      have c2 := HBK2.cell 2
      have f0 := HBK2.frozen 0
      have f1 := HBK2.frozen 1
      have f2 := HBK2.frozen 2
      have HB2 := hide_ (HB0.out.trans (hb2.mono (by simp)))
      simp only [tokZ] at c0 c1 c2
      clear hb2 HBK2
      go_wp2
      exact bodyPost_ret (v := .tuple #[.agg #[.int .u8 4, .int .i64 i, .string (s.extract i e)], .int .i64 (i + P), .int .i64 E]) (by simp [results, Tryd.results84, go_sem, c0, c1, c2]) rfl (rtok_lit HXX.out (((HB2.out.setCell (Nat.le_refl _) _).setCell (Nat.le_refl _) _).setCell (Nat.le_refl _) _))
theorem nameE_not (s : ByteArray) (i : Nat) (h : namR (cutR s i) = false) : nameE s i = i := nameE_stop s i h
set_option maxHeartbeats 4000000 in
theorem rtoken_any (s : ByteArray) (i : Nat) (A : Option Addr) (n c B : Nat) (sg : List ByteArray) (w : World) (hz : s.size ≤ 1048576) (hi : i < s.size) (hn : n ≤ 1048576) (hsz : ∀ g ∈ sg, g.size ≤ 140737488351232) (hr : Reads w B 1 A n (sg.map Value.string)) (hB : B ≤ w.heap.size) :
    Calls Tryd.prog 58 #[.string s, .int .i64 i, .slice A n c] w (RTokIs s i (tokN s sg i) w) := by
  have hbt := get_bt s
  have HBI := hide_ (bt_eq s i hi)
  have HBK := hide_ (Blk.new w 36 tokZ)
  have HB0 := hide_ ((Below.refl _ w).alloc (Nat.le_refl _) (.cells tokZ 36))
  obtain ⟨X, hX⟩ : ∃ X, X = tokN s sg i := ⟨_, rfl⟩
  rw [← hX]
  have hX' := hX
  unfold tokN at hX'
  have hg0 : w.heap.size < (w.alloc (.cells tokZ 36)).heap.size := by simp
  by_cases h10 : bn s i = 10
  · rw [if_pos h10] at hX'
    have HX := hide_ (show X = (6, ((i + 1 : Nat) : Int), 0) by rw [hX']; rfl)
    have d10 : (bt s i == 10) = true := by rw [HBI.out]; simp; omega
    clear hX hX' h10 hr hsz
    go_enter Tryd.func58, Tryd.ntmps58
    go_wp2
    exact bodyPost_ret (v := .tuple #[.agg #[.int .u8 6, .int .i64 i, .string (s.extract i (i + 1))], .int .i64 0, .int .i64 0]) (by simp [results, Tryd.results58, go_sem]) rfl (by rw [HX.out]; exact rtok_ok ((Below.refl _ w).alloc (Nat.le_refl _) _))
  rw [if_neg h10] at hX'
  have d10 : (bt s i == 10) = false := by rw [HBI.out]; simp; omega
  have HDG := hide_ (fun W => rdigit_any (bt s i) W)
  by_cases hdg : 48 ≤ bn s i ∧ bn s i ≤ 57
  · have hlow := cutR_low s i (by omega)
    rw [if_neg (by rw [hlow]; unfold letR; simp; omega), if_pos hdg] at hX'
    have HX := hide_ hX'
    rw [show digR (bt s i) = true by rw [HBI.out]; unfold digR; simp; omega] at HDG
    have HFE := hide_ (fun W => figureEnd_any s i W (by omega) hi)
    have hfb := figE_bd s i hi
    obtain ⟨q, hq⟩ : ∃ q, q = figE s i := ⟨_, rfl⟩
    rw [← hq] at HX HFE hfb
    have hiq : i ≤ q := by omega
    have hqs : q ≤ s.size := hfb.2
    have hq0 : (0 : Int) ≤ (q : Int) := by omega
    have c0 := HBK.out.cell 0
    have c1 := HBK.out.cell 1
    have c2 := HBK.out.cell 2
    have f0 := HBK.out.frozen 0
    have f1 := HBK.out.frozen 1
    have f2 := HBK.out.frozen 2
    simp only [tokZ] at c0 c1 c2 f0 f1 f2 hg0
    clear hX hX' h10 hr hsz hdg hlow hq hfb
    go_enter Tryd.func58, Tryd.ntmps58
    go_wp2_with fail
    refine (HDG.out _).mono ?_
    rintro e2 w2 ⟨rfl, rfl⟩
    go_wp2_with fail
    refine (HFE.out _).mono ?_
    rintro e2 w2 ⟨rfl, rfl⟩
    go_wp2
    exact bodyPost_ret (v := .tuple #[.agg #[.int .u8 2, .int .i64 i, .string (s.extract i q)], .int .i64 0, .int .i64 0]) (by simp [results, Tryd.results58, go_sem]) rfl (by rw [HX.out]; exact rtok_ok ((Below.refl _ w).alloc (Nat.le_refl _) _))
  have hdc : digR (cutR s i) = false := by rw [digR_cut, decide_eq_false hdg]
  rw [show digR (bt s i) = false by rw [HBI.out]; unfold digR; simp; omega] at HDG
  have HNE := hide_ (fun W => nameEnd_any s i W (by omega) (by omega))
  by_cases hnm : namR (cutR s i) = true
  · rw [if_pos (by unfold namR at hnm; rw [hdc] at hnm; simpa using hnm)] at hX'
    have HX := hide_ hX'
    have hlt := nameE_lt s i hi hnm
    have hbd := nameE_bd s i (by omega)
    obtain ⟨q, hq⟩ : ∃ q, q = nameE s i := ⟨_, rfl⟩
    rw [← hq] at HX HNE hlt hbd
    have hiq : i ≤ q := by omega
    have hqs : q ≤ s.size := hbd.2
    have c0 := HBK.out.cell 0
    have c1 := HBK.out.cell 1
    have c2 := HBK.out.cell 2
    have f0 := HBK.out.frozen 0
    have f1 := HBK.out.frozen 1
    have f2 := HBK.out.frozen 2
    simp only [tokZ] at c0 c1 c2 f0 f1 f2 hg0
    clear hX hX' h10 hr hsz hdg hdc hnm hq hbd
    go_enter Tryd.func58, Tryd.ntmps58
    go_wp2_with fail
    refine (HDG.out _).mono ?_
    rintro e2 w2 ⟨rfl, rfl⟩
    go_wp2_with fail
    refine (HNE.out _).mono ?_
    rintro e2 w2 ⟨rfl, rfl⟩
    go_wp2
    exact bodyPost_ret (v := .tuple #[.agg #[.int .u8 1, .int .i64 i, .string (s.extract i q)], .int .i64 0, .int .i64 0]) (by simp [results, Tryd.results58, go_sem]) rfl (by rw [HX.out]; exact rtok_ok ((Below.refl _ w).alloc (Nat.le_refl _) _))
  rw [Bool.not_eq_true] at hnm
  rw [nameE_stop s i hnm] at HNE
  rw [if_neg (by unfold namR at hnm; rw [hdc] at hnm; simpa using hnm), if_neg hdg] at hX'
  have dii : decide ((i : Int) < (i : Int)) = false := by simp
  by_cases hq : bn s i = 34 ∨ bn s i = 39
  · rw [if_pos hq] at hX'
    have HX := hide_ hX'
    have HL := hide_ (fun W => rliteral_any s i W (by omega) hi hq)
    have hbq : bt s i = 34 ∨ bt s i = 39 := by rw [HBI.out]; omega
    clear hX hX' h10 hr hsz hdg hdc hnm hq d10
    have HDG2 := HDG
    rcases hbq with h | h
    all_goals
      have e34 : (bt s i == 34) = decide (bt s i = 34) := by rw [Bool.eq_iff_iff]; simp
      have e39 : (bt s i == 39) = decide (bt s i = 39) := by rw [Bool.eq_iff_iff]; simp
      have e10 : (bt s i == 10) = false := by rw [h]; rfl
      rw [h] at e34 e39 e10 HDG
      clear e34 e39 HDG2
      go_enter Tryd.func58, Tryd.ntmps58
      go_wp2_with fail
      refine (HDG.out _).mono ?_
      rintro e2 w2 ⟨rfl, rfl⟩
      go_wp2_with fail
      refine (HNE.out _).mono ?_
      rintro e2 w2 ⟨rfl, rfl⟩
      go_wp2_with fail
      refine (HL.out _).mono ?_
      rintro e2 w2 ⟨k, a, T, p, rfl, h1, h2, hb2⟩
      have HH := hide_ (And.intro h1 h2)
      clear h1 h2
      have HBK2 := HBK.out.below hb2 (by simp)
      have hg2 := HBK2.lt
      have c0 := HBK2.cell 0
      have c1 := HBK2.cell 1
      have c2 := HBK2.cell 2
      have f0 := HBK2.frozen 0
      have f1 := HBK2.frozen 1
      have f2 := HBK2.frozen 2
      have HB2 := hide_ (HB0.out.trans (hb2.mono (by simp)))
      simp only [tokZ] at c0 c1 c2
      clear hb2 HBK2
      go_wp2
      exact bodyPost_ret (v := .tuple #[.agg #[.int .u8 k, .int .i64 a, .string T], .int .i64 p, .int .i64 (litN s i).2.2]) (by simp [results, Tryd.results58, go_sem, c0, c1, c2]) rfl (by rw [HX.out]; exact ⟨k, a, T, p, rfl, HH.out.1, HH.out.2, (((HB2.out.setCell (Nat.le_refl _) _).setCell (Nat.le_refl _) _).setCell (Nat.le_refl _) _)⟩)
  rw [if_neg hq] at hX'
  have e34 : (bt s i == 34) = false := by rw [HBI.out]; simp; omega
  have e39 : (bt s i == 39) = false := by rw [HBI.out]; simp; omega
  have HSA := hide_ (show ∀ W : World, Below w.heap.size w W → Calls Tryd.prog 85 #[.string s, .int .i64 i, .slice A n c] W fun e w' => e = .returned (.string (signN s i sg)) ∧ Drew W w' from fun W hW =>
    signAt_any s i A n c B sg W hz hi hn hsz (hr.below (hW.mono hB)) (Nat.le_trans hB hW.size))
  have hfit := signN_fits s i sg
  obtain ⟨g, hg⟩ : ∃ g, g = signN s i sg := ⟨_, rfl⟩
  rw [← hg] at hX' hfit HSA
  by_cases hgs : 0 < g.size
  · rw [if_pos hgs] at hX'
    obtain ⟨f1', f2'⟩ := hfit hgs
    have HX := hide_ (show X = (5, ((i + g.size : Nat) : Int), 0) by rw [hX']; rfl)
    have HG := hide_ f2'
    have dgs := not_empty g hgs
    clear hX hX' h10 hr hsz hdg hdc hnm hq hfit f2' f1' hg hgs
    go_enter Tryd.func58, Tryd.ntmps58
    go_wp2_with fail
    refine (HDG.out _).mono ?_
    rintro e2 w2 ⟨rfl, rfl⟩
    go_wp2_with fail
    refine (HNE.out _).mono ?_
    rintro e2 w2 ⟨rfl, rfl⟩
    go_wp2_with fail
    refine (HSA.out _ HB0.out).mono ?_
    rintro e2 w2 ⟨rfl, hd⟩
    have hb2 := hd.below (w.alloc (.cells tokZ 36)).heap.size
    clear hd
    have HBK2 := HBK.out.below hb2 (by simp)
    have hg2 := HBK2.lt
    have c0 := HBK2.cell 0
    have c1 := HBK2.cell 1
    have c2 := HBK2.cell 2
    have f0 := HBK2.frozen 0
    have f1 := HBK2.frozen 1
    have f2 := HBK2.frozen 2
    have HB2 := hide_ (HB0.out.trans (hb2.mono (by simp)))
    simp only [tokZ] at c0 c1 c2
    clear hb2 HBK2
    go_wp2
    exact bodyPost_ret (v := .tuple #[.agg #[.int .u8 5, .int .i64 i, .string g], .int .i64 0, .int .i64 0]) (by simp [results, Tryd.results58, go_sem, c0, c1, c2]) rfl (by rw [HX.out, show g = s.extract i (i + g.size) from HG.out.symm]; rw [show (s.extract i (i + g.size)).size = g.size by rw [HG.out]]; exact rtok_ok (((HB2.out.setCell (Nat.le_refl _) _).setCell (Nat.le_refl _) _).setCell (Nat.le_refl _) _))
  · rw [if_neg hgs] at hX'
    have hg0' : g = ⟨#[]⟩ := is_empty g (by omega)
    subst hg0'
    by_cases hl : lost s i
    · have hneg : cutR s i < 0 := by unfold cutR; rw [if_pos hl]; omega
      rw [if_pos hneg] at hX'
      have HX := hide_ hX'
      have HRA := hide_ (fun W => runeAt_lost s i W (by omega) hi hl)
      clear hX hX' h10 hr hsz hdg hdc hnm hq hfit hg hgs hl hneg
      go_enter Tryd.func58, Tryd.ntmps58
      go_wp2_with fail
      refine (HDG.out _).mono ?_
      rintro e2 w2 ⟨rfl, rfl⟩
      go_wp2_with fail
      refine (HNE.out _).mono ?_
      rintro e2 w2 ⟨rfl, rfl⟩
      go_wp2_with fail
      refine (HSA.out _ HB0.out).mono ?_
      rintro e2 w2 ⟨rfl, hd⟩
      have hb2 := hd.below (w.alloc (.cells tokZ 36)).heap.size
      clear hd
      have HBK2 := HBK.out.below hb2 (by simp)
      have hg2 := HBK2.lt
      have c0 := HBK2.cell 0
      have c1 := HBK2.cell 1
      have c2 := HBK2.cell 2
      have f0 := HBK2.frozen 0
      have f1 := HBK2.frozen 1
      have f2 := HBK2.frozen 2
      have HB2 := hide_ (HB0.out.trans (hb2.mono (by simp)))
      simp only [tokZ] at c0 c1 c2
      clear hb2 HBK2
      go_wp2_with fail
      refine (HRA.out _).mono ?_
      rintro e2 w3 ⟨rfl, rfl⟩
      go_wp2
      exact bodyPost_ret (v := .tuple #[.agg #[.int .u8 0, .int .i64 0, .string ⟨#[]⟩], .int .i64 i, .int .i64 13]) (by simp [results, Tryd.results58, go_sem, c0, c1, c2]) rfl (by rw [HX.out]; exact rtok_no (by decide) (((HB2.out.setCell (Nat.le_refl _) _).setCell (Nat.le_refl _) _).setCell (Nat.le_refl _) _))
    · have hneg : ¬ cutR s i < 0 := by unfold cutR; rw [if_neg hl]; omega
      rw [if_neg hneg] at hX'
      have HX := hide_ hX'
      have HRA := hide_ (fun W => runeAt_found s i W (by omega) hi hl)
      have hpos := cutN_pos s i
      obtain ⟨r, hr'⟩ : ∃ r, r = cutR s i := ⟨_, rfl⟩
      obtain ⟨k, hk⟩ : ∃ k, k = cutN s i := ⟨_, rfl⟩
      rw [← hr', ← hk] at HRA
      rw [← hk] at hpos
      have hk0 : ((k : Int) == 0) = false := by simp; omega
      clear hX hX' h10 hr hsz hdg hdc hnm hq hfit hg hgs hl hneg hr' hk
      go_enter Tryd.func58, Tryd.ntmps58
      go_wp2_with fail
      refine (HDG.out _).mono ?_
      rintro e2 w2 ⟨rfl, rfl⟩
      go_wp2_with fail
      refine (HNE.out _).mono ?_
      rintro e2 w2 ⟨rfl, rfl⟩
      go_wp2_with fail
      refine (HSA.out _ HB0.out).mono ?_
      rintro e2 w2 ⟨rfl, hd⟩
      have hb2 := hd.below (w.alloc (.cells tokZ 36)).heap.size
      clear hd
      have HBK2 := HBK.out.below hb2 (by simp)
      have hg2 := HBK2.lt
      have c0 := HBK2.cell 0
      have c1 := HBK2.cell 1
      have c2 := HBK2.cell 2
      have f0 := HBK2.frozen 0
      have f1 := HBK2.frozen 1
      have f2 := HBK2.frozen 2
      have HB2 := hide_ (HB0.out.trans (hb2.mono (by simp)))
      simp only [tokZ] at c0 c1 c2
      clear hb2 HBK2
      go_wp2_with fail
      refine (HRA.out _).mono ?_
      rintro e2 w3 ⟨rfl, rfl⟩
      go_wp2
      exact bodyPost_ret (v := .tuple #[.agg #[.int .u8 0, .int .i64 0, .string ⟨#[]⟩], .int .i64 i, .int .i64 10]) (by simp [results, Tryd.results58, go_sem, c0, c1, c2]) rfl (by rw [HX.out]; exact rtok_no (by decide) (((HB2.out.setCell (Nat.le_refl _) _).setCell (Nat.le_refl _) _).setCell (Nat.le_refl _) _))
end Go.Proofs.YtmbofpeedjlfhaaDoor
