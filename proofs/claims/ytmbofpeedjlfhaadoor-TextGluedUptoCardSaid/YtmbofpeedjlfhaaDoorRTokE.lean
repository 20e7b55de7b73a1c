/-
  The walk of the document's Tokens; the walk of sameTokens' callee SameTokens.
-/
import Derived.Test.YtmbofpeedjlfhaaDoorRTokD
namespace Go.Proofs.YtmbofpeedjlfhaaDoor
open Go.RowKit Go.PlainAid Go.BigFrame
set_option linter.unusedVariables false
set_option maxRecDepth 100000

set_option maxHeartbeats 4000000 in
theorem rtokens_any (s : ByteArray) (A : Option Addr) (n c B : Nat) (sg : List ByteArray) (w : World) (hz : s.size ≤ 140737488351232) (hn : n ≤ 140737488351232) (hsz : ∀ g ∈ sg, g.size ≤ 140737488351232) (hr : Reads w B 1 A n (sg.map Value.string)) (hB : B ≤ w.heap.size) :
    Calls Tryd.prog 31 #[.string s, .slice A n c] w (ToksIs s (toksN s sg) w) := by
  have hlen : sg.length = n := by have := hr.1; simpa using this
  have HF := hide_ (SignsMay_any A n c B sg w hn hsz hr hB)
  unfold toksN
  cases hok : signsOk sg with
  | false =>
    rw [if_pos rfl]
    rw [hok] at HF
    clear hr hlen hsz
    go_enter Tryd.func31, Tryd.ntmps31
    go_wp2_with fail
    refine HF.out.mono ?_
    rintro e w2 ⟨rfl, hd⟩
    have HB := hide_ (hd.below w.heap.size)
    clear hd
    go_wp2
    go_ret3
    exact ⟨_, rfl, World.ownsRow_nil _ _ _ _, HB.out⟩
  | true =>
  rw [if_neg (by decide)]
  rw [hok] at HF
  have hn64 : n ≤ 64 := by
    rcases Nat.lt_or_ge 64 n with h | h
    · have := signsOk_long sg (by omega)
      rw [hok] at this
      cases this
    · exact h
  clear hok hn
  by_cases hbig : 524288 < s.size
  · rw [if_pos hbig]
    have d0 : decide (524288 < (s.size : Int)) = true := decide_eq_true (by omega)
    clear hbig hr hlen hsz
    go_enter Tryd.func31, Tryd.ntmps31
    go_wp2_with fail
    refine HF.out.mono ?_
    rintro e w2 ⟨rfl, hd⟩
    have HB := hide_ (hd.below w.heap.size)
    clear hd
    go_wp2
    go_ret3
    exact ⟨_, rfl, World.ownsRow_nil _ _ _ _, HB.out⟩
  rw [if_neg hbig]
  have hz2 : s.size ≤ 524288 := by omega
  have d0 : decide (524288 < (s.size : Int)) = false := decide_eq_false (by omega)
  obtain ⟨i0, hi0, hz0, hz1, hz2'⟩ := info_parts token_info
  obtain ⟨X, hX⟩ : ∃ X, X = toksAt s sg 0 := ⟨_, rfl⟩
  rw [← hX]
  have hp0 := pasE_bd s s.size 0 (by omega) (Nat.zero_le _)
  have HX := hide_ (show X = toksAt s sg (pasE s 0) by rw [hX]; exact hp0.2.2.2 sg)
  have HPA := hide_ (fun q (hq : q ≤ s.size) W => passed_any s q W (by omega) hq)
  have HP0 := hide_ hp0.2.2.1
  have HTOK := hide_ (show ∀ (m : Nat) (W : World), m < s.size → Below w.heap.size w W → Calls Tryd.prog 58 #[.string s, .int .i64 m, .slice A n c] W (RTokIs s m (tokN s sg m) W) from fun m W hm hW =>
    rtoken_any s m A n c B sg W (by omega) hm (by omega) hsz (hr.below (hW.mono hB)) (Nat.le_trans hB hW.size))
  obtain ⟨m0, hm0⟩ : ∃ m0, m0 = pasE s 0 := ⟨_, rfl⟩
  have hm0s : m0 ≤ s.size := by rw [hm0]; exact hp0.2.1
  have HPB := hide_ (HPA.out 0 (Nat.zero_le _))
  rw [← hm0] at HX HP0 HPB
  clear hX hr hlen hbig hz hsz hp0 hm0
  go_enter Tryd.func31, Tryd.ntmps31
  go_wp2_with fail
  refine HF.out.mono ?_
  rintro e w2 ⟨rfl, hd⟩
  have HB2 := hide_ (hd.below w.heap.size)
  clear hd HF
  go_wp2_with fail
  refine (HPB.out _).mono ?_
  rintro e w3 ⟨rfl, rfl⟩
  clear HPB
  go_wp2_with fail
  go_loopw [7, 8] (fun v k wr => ∃ (m : Nat) (acc : List Tk), k = .int .i64 m ∧ m ≤ s.size ∧ acc.length ≤ m ∧ Hid (m < s.size → bn s m ≠ 35 ∧ ¬ (bn s m = 9 ∨ bn s m = 13 ∨ bn s m = 32)) ∧ Hid (X = addTk acc (toksAt s sg m)) ∧ wr.ownsRow w.heap.size 36 3 v acc.length (tkCells s acc) ∧ Below w.heap.size w wr) (fun _ k _ => s.size - (intOf k).toNat)
  case atStart => exact ⟨m0, [], rfl, hm0s, Nat.zero_le _, HP0, hide_ (by rw [addTk_nil]; exact HX.out), World.ownsRow_nil _ _ _ _, HB2.out⟩
  case round =>
    clear HX HB2 HP0
    obtain ⟨m, acc, rfl, hm, hacc, HNB, HX, hown, hb⟩ := hrel
    obtain ⟨A0, c0, rfl, hc0, hc1⟩ := ownsRow_slice hown
    have HB := hide_ hb
    have HSZ := hide_ hb.size
    have HOWN := hide_ hown
    clear hb hown
    by_cases hlt : m < s.size
    · have HT := hide_ (HTOK.out m wr hlt HB.out)
      obtain ⟨K, E, ER, hT⟩ : ∃ K E ER, tokN s sg m = (K, E, ER) := ⟨_, _, _, rfl⟩
      obtain ⟨h35, hbl⟩ := HNB.out hlt
      have hend := tokN_end s sg m hlt
      rw [hT] at HT
      by_cases her : ER = 0
      · subst her
        rw [hT] at hend
        simp only at hend
        have hend2 := hend trivial
        obtain ⟨q, rfl⟩ : ∃ q : Nat, E = q := ⟨E.toNat, by omega⟩
        have hmq : m < q := by omega
        have hqs : q ≤ s.size := by omega
        have hpq := pasE_bd s s.size q (by omega) hqs
        have HX2 := hide_ (show X = addTk (acc ++ [(K, m, q)]) (toksAt s sg (pasE s q)) by rw [HX.out, toksAt_tok s sg m q K hlt hbl h35 hT, addTk_add, hpq.2.2.2 sg])
        have HPB := hide_ (HPA.out q hqs)
        have HNB2 := hide_ hpq.2.2.1
        obtain ⟨z, hz9⟩ : ∃ z, z = pasE s q := ⟨_, rfl⟩
        have hz1' : q ≤ z := by rw [hz9]; exact hpq.1
        have hz2'' : z ≤ s.size := by rw [hz9]; exact hpq.2.1
        rw [← hz9] at HX2 HPB HNB2
        clear HX hbl hT hend hend2 h35 hpq hz9 HNB
        go_wp2_with fail
        refine HT.out.mono ?_
        rintro e w3 ⟨k, a, T, p, rfl, h1, _, hb3⟩
        obtain ⟨rfl, rfl, hTT⟩ := h1 rfl
        have hTs : T.size = q - m := by rw [hTT, ByteArray.size_extract]; simp; omega
        obtain ⟨d, hd⟩ : ∃ d, q = m + d := ⟨q - m, by omega⟩
        have hTd : T.size = d := by omega
        have HTT := hide_ (show T = s.extract m q from hTT)
        have HTD := hide_ hTd
        have HO := hide_ ((one_row (r := ⟨36, 3, .slice A0 acc.length c0, acc.length, tkCells s acc⟩) HOWN.out).below hb3)
        have HB3 := hide_ (HB.out.trans (hb3.mono HSZ.out))
        have HDQ := hide_ hd
        have hdle : d ≤ 524288 := by omega
        clear hb3 h1 hTT hTs hTd hd
        have HO4 := hide_ (HO.out.box 36 #[.int .u8 k, .int .i64 m, .string T] (by have := HB3.out.size; omega) (show 3 ≤ maxLen by unfold maxLen; decide))
        go_wp2_with (at_builtin; refine wpList_append_owns _ rfl (.tmp 36) (.tmp 38) 24 rfl w.heap.size _ 0 36 3 (.slice A0 acc.length c0) acc.length (tkCells s acc) rfl (HO4.out.alloc _) (by have := HB3.out.size; simp; omega) i0 _ 32 Tryd.underlying24 hi0 hz0 hz1 hz2' rfl (by omega) rfl _ _ 1 1 [.int .u8 k, .int .i64 m, .string T] rfl (reads_at (w3.alloc (.cells #[.int .u8 k, .int .i64 m, .string T] 36)) 36 3 1 [.int .u8 k, .int .i64 m, .string T] rfl (w3.heap.size + 1) (by simp)) (by simp [Value.oneCell']) (by simp only [maxLen]; omega) (by omega) ?_)
        intro v1 w4 hO1 hb1 hsz1
        have ck : w4.cell? ⟨w3.heap.size, 2, none⟩ = some (.string T) := hO1.cell (i := 1) rfl rfl
        have HB4 := hide_ (((HB3.out.alloc HB3.out.size _).alloc (by have := HB3.out.size; simp; omega) _).trans hb1)
        have HO5 := hide_ (hO1.at_ (i := 0) rfl)
        have htd := HTD.out
        have hqd : q = m + d := HDQ.out
        subst hqd
        have hqi : (((m + d : Nat) : Int)) = (m : Int) + d := by omega
        clear hO1 hb1 hsz1 hqi
        simp only [Int.natCast_add] at HPB
        go_wp2_with fail
        refine (HPB.out _).mono ?_
        rintro e w5 ⟨rfl, rfl⟩
        go_wp2
        go_roundw
        case rel => exact ⟨z, acc ++ [(k, m, m + d)], rfl, by omega, by simp; omega, HNB2, HX2, by rw [tkCells_snoc, List.length_append, ← HTT.out]; exact HO5.out, HB4.out⟩
        case measure => simp [intOf]; omega
      · have HX2 := hide_ (show X = (none, E, ER) by rw [HX.out, toksAt_bad s sg m hlt hbl h35 (by rw [hT]; exact her), hT]; rfl)
        have d2 : (ER != 0) = true := bne_iff_ne.2 her
        have HER := hide_ her
        clear HX hbl hT hend h35 her
        go_wp2_with fail
        refine HT.out.mono ?_
        rintro e w3 ⟨k, a, T, p, rfl, _, h2, hb3⟩
        have hpe : p = E := h2 HER.out
        subst hpe
        have HB3 := hide_ (HB.out.trans (hb3.mono HSZ.out))
        clear hb3 h2
        go_wp2
        go_ret3
        rw [HX2.out]
        exact ⟨_, rfl, World.ownsRow_nil _ _ _ _, HB3.out.alloc HB3.out.size _⟩
    · have HX2 := hide_ (show X = (some acc, 0, 0) by rw [HX.out, toksAt_ge s sg m (by omega)]; unfold addTk; simp)
      clear HX
      go_wp2
      go_ret3
      rw [HX2.out]
      exact ⟨_, rfl, HOWN.out, HB.out⟩
end Go.Proofs.YtmbofpeedjlfhaaDoor
