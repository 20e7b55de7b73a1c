/-
  The walk of text.Tokens: tokens as rows.
-/
import Derived.Test.YtmbofpeedjlfhaaDoorTokD
import Derived.Test.YtmbofpeedjlfhaaDoorTokG
import Derived.WalkMore
namespace Go.Proofs.YtmbofpeedjlfhaaDoor
open Go.RowKit Go.PlainAid
set_option linter.unusedVariables false
set_option maxRecDepth 100000

/-- the cells of tokens of a text -/
def tkCells (s : ByteArray) (l : List Tk) : List Value := l.flatMap fun t => [.int .u8 t.1, .int .i64 t.2.1, .string (s.extract t.2.1 t.2.2)]
theorem tkCells_len (s : ByteArray) (l : List Tk) : (tkCells s l).length = l.length * 3 := by
  induction l with
  | nil => rfl
  | cons t l ih =>
    rw [show tkCells s (t :: l) = [.int .u8 t.1, .int .i64 t.2.1, .string (s.extract t.2.1 t.2.2)] ++ tkCells s l from rfl, List.length_append, ih, List.length_cons]
    simp only [List.length_cons, List.length_nil]
    omega
theorem tkCells_snoc (s : ByteArray) (l : List Tk) (t : Tk) : tkCells s (l ++ [t]) = tkCells s l ++ [.int .u8 t.1, .int .i64 t.2.1, .string (s.extract t.2.1 t.2.2)] := by simp [tkCells]
/-- what Tokens answers: the tokens as a row of new memory, the place, the error -/
def ToksIs (s : ByteArray) (x : Option (List Tk) × Int × Int) (w : World) (e : Ending) (w' : World) : Prop :=
  ∃ v, e = .returned (.tuple #[v, .int .i64 x.2.1, .int .i64 x.2.2]) ∧ w'.ownsRow w.heap.size 36 3 v (x.1.getD []).length (tkCells s (x.1.getD [])) ∧ Below w.heap.size w w'
theorem token_info : (Tryd.prog.info? 36).map (fun i => (i.zero, i.size, i.bytes)) = some (some (.agg #[.int .u8 0, .int .i64 0, .string ⟨#[]⟩]), 3, 32) := by kernel_rfl
theorem index_line (s : ByteArray) : ∀ (f i : Nat), s.size - i ≤ f → i ≤ s.size → Lib.indexByte (s.data.toList.drop i) 10 = if lineF s f i < s.size then ((lineF s f i : Int) - i) else -1 := by
  intro f
  induction f with
  | zero =>
    intro i hf hi
    have hnil : s.data.toList.drop i = [] := List.drop_eq_nil_of_le (by show s.size ≤ i; omega)
    rw [hnil, lineF, if_neg (by omega)]
    rfl
  | succ f ih =>
    intro i hf hi
    rw [lineF]
    by_cases h : i < s.size
    · rw [if_pos h, drop_get s i h, Lib.indexByte]
      have hk : (s.get! i == 10) = decide (bn s i = 10) := by
        unfold bn
        rw [Bool.eq_iff_iff, beq_iff_eq, decide_eq_true_iff]
        exact ⟨fun e => by rw [e]; rfl, fun e => UInt8.toNat_inj.1 e⟩
      by_cases h10 : bn s i = 10
      · rw [hk, decide_eq_true h10, if_pos h10, if_pos rfl, if_pos h]
        omega
      · rw [hk, decide_eq_false h10, if_neg h10, if_neg (by decide), ih (i + 1) (by omega) (by omega)]
        have hb := lineF_bd s f (i + 1) (by omega)
        by_cases hl : lineF s f (i + 1) < s.size
        · rw [if_pos hl, if_pos hl, if_neg (by simp; omega)]
          omega
        · rw [if_neg hl, if_neg hl]
          rfl
    · rw [if_neg h, if_neg h]
      have hnil : s.data.toList.drop i = [] := List.drop_eq_nil_of_le (by show s.size ≤ i; omega)
      rw [hnil]
      rfl
theorem ext_drop (s : ByteArray) (i : Nat) : (s.extract i s.size).data.toList = s.data.toList.drop i := by
  rw [ByteArray.data_extract, Array.toList_extract, List.extract_eq_take_drop]
  exact List.take_of_length_le (Nat.le_of_eq (by rw [List.length_drop]; rfl))
theorem addTk_fst (acc : List Tk) (p e : Int) : addTk acc (none, p, e) = (none, p, e) := rfl
set_option maxHeartbeats 2000000 in
theorem tokens_any (s : ByteArray) (A : Option Addr) (n c B : Nat) (sg : List ByteArray) (w : World) (hz : s.size ≤ 140737488351232) (hn : n ≤ 140737488351232) (hc : n ≤ c) (hr : Reads w B 1 A n (sg.map Value.string)) (hB : B ≤ w.heap.size) :
    Calls Tryd.prog 9 #[.string s, .slice A n c] w (ToksIs s (toksN s sg) w) := by
  have hlen : sg.length = n := by have := hr.1; simpa using this
  have HF := hide_ (fit_any A n c B sg w hn hc hr hB)
  unfold toksN
  cases hok : signsOk sg with
  | false =>
    rw [if_pos rfl]
    rw [hok] at HF
    clear hr hlen
    go_enter Tryd.func9, Tryd.ntmps9
    go_wp2_with fail
    go_step3
    go_wp2_with fail
    refine HF.out.mono ?_
    rintro e w2 ⟨rfl, hb⟩
    have HB := hide_ hb
    clear hb
    go_wp2
    rw [Exit.noGoto_ret]
    go_ret3
    exact ⟨_, rfl, World.ownsRow_nil _ _ _ _, HB.out⟩
  | true =>
  rw [if_neg (by decide)]
  rw [hok] at HF
  have hn64 : n ≤ 64 := by
    rcases Nat.lt_or_ge 64 n with h | h
    · have := signsOk_long sg (by omega)
      rw [hok] at this
      cases this
    · exact h
  clear hok hn
  by_cases hbig : 524288 < s.size
  · rw [if_pos hbig]
    have d0 : decide (524288 < (s.size : Int)) = true := decide_eq_true (by omega)
    clear hbig hr hlen
    go_enter Tryd.func9, Tryd.ntmps9
    go_wp2_with fail
    go_step3
    go_wp2_with fail
    refine HF.out.mono ?_
    rintro e w2 ⟨rfl, hb⟩
    have HB := hide_ hb
    clear hb
    go_wp2
    rw [Exit.noGoto_ret]
    go_ret3
    exact ⟨_, rfl, World.ownsRow_nil _ _ _ _, HB.out⟩
  rw [if_neg hbig]
  have hz2 : s.size ≤ 524288 := by omega
  have d0 : decide (524288 < (s.size : Int)) = false := decide_eq_false (by omega)
  obtain ⟨i0, hi0, hz0, hz1, hz2'⟩ := info_parts token_info
  have hbt := get_bt s
  obtain ⟨X, hX⟩ : ∃ X, X = toksAt s sg 0 := ⟨_, rfl⟩
  have HX := hide_ hX
  rw [← hX]
  have HTOK := hide_ (show ∀ (m : Nat) (W : World), m < s.size → Below w.heap.size w W → Calls Tryd.prog 30 #[.string s, .int .i64 m, .slice A n c] W (TokIs (tokN s sg m) W) from fun m W hm hW =>
    token_any s m A n c B sg W hz hm (by omega) (hr.below (hW.mono hB)) (Nat.le_trans hB hW.size))
  clear hX hr hlen hbig hz
  go_enter Tryd.func9, Tryd.ntmps9
  go_wp2_with fail
  go_step3
  go_wp2_with fail
  refine HF.out.mono ?_
  rintro e w2 ⟨rfl, hb2⟩
  have HB2 := hide_ hb2
  clear hb2 HF
  go_wp2_with fail
  go_step3
  go_wp2_with fail
  go_loopw [7, 8] (fun v k wr => ∃ (m : Nat) (acc : List Tk), k = .int .i64 m ∧ m ≤ s.size ∧ acc.length ≤ m ∧ Hid (X = addTk acc (toksAt s sg m)) ∧ wr.ownsRow w.heap.size 36 3 v acc.length (tkCells s acc) ∧ Below w.heap.size w wr) (fun _ k _ => s.size - (intOf k).toNat)
  case atStart => exact ⟨0, [], rfl, Nat.zero_le _, Nat.le_refl _, hide_ (by rw [addTk_nil]; exact HX.out), World.ownsRow_nil _ _ _ _, HB2.out⟩
  case round =>
    clear HX HB2
    obtain ⟨m, acc, rfl, hm, hacc, HX, hown, hb⟩ := hrel
    obtain ⟨A0, c0, rfl, hc0, hc1⟩ := ownsRow_slice hown
    have HB := hide_ hb
    have HSZ := hide_ hb.size
    have HOWN := hide_ hown
    clear hb hown
    by_cases hlt : m < s.size
    · have hbm := bt_eq s m hlt
      by_cases hbl : bn s m = 9 ∨ bn s m = 13 ∨ bn s m = 32
      · have HX2 := hide_ (show X = addTk acc (toksAt s sg (m + 1)) by rw [HX.out, toksAt_blank s sg m hlt hbl])
        have hhb : bt s m = 9 ∨ bt s m = 13 ∨ bt s m = 32 := by omega
        clear HX hbl hbm
        rcases hhb with h9 | h9 | h9
        all_goals
          go_wp2
          go_roundw
          case rel => exact ⟨m + 1, acc, by go_num, by omega, by omega, HX2, HOWN.out, HB.out⟩
          case measure => simp [intOf]; omega
      have e9 : (bt s m == 9) = false := by rw [hbm]; simp; omega
      have e13 : (bt s m == 13) = false := by rw [hbm]; simp; omega
      have e32 : (bt s m == 32) = false := by rw [hbm]; simp; omega
      by_cases h35 : bn s m = 35
      · have HX2 := hide_ (show X = addTk acc (toksAt s sg (lineE s m)) by rw [HX.out, toksAt_note s sg m hlt h35])
        have hl := lineE_lt s m hlt h35
        have hix := index_line s (s.size - m) m (Nat.le_refl _) (by omega)
        rw [show lineF s (s.size - m) m = lineE s m from rfl, ← ext_drop] at hix
        have HI := hide_ (Tryd.strings_IndexByte (s.extract m s.size) 10)
        rw [show (10 : Int).toNat.toUInt8 = 10 from rfl, hix] at HI
        have h35' : bt s m = 35 := by omega
        obtain ⟨q, hq⟩ : ∃ q, q = lineE s m := ⟨_, rfl⟩
        rw [← hq] at HI hl HX2
        clear HX hbl hbm hix hq e9 e13 e32 h35
        by_cases hqe : q < s.size
        · rw [if_pos hqe] at HI
          have hq1 : ((m : Int) + ((q : Int) - m)) = q := by omega
          obtain ⟨D, hD⟩ : ∃ D : Nat, (q : Int) - m = D := ⟨q - m, by omega⟩
          rw [hD] at HI
          have hmD : m + D = q := by omega
          clear hq1 hD
          go_wp2_with fail
          refine (HI.out _).mono ?_
          rintro e w3 ⟨rfl, rfl⟩
          go_wp2
          go_roundw
          case rel => exact ⟨q, acc, by rw [← hmD]; go_num, by omega, by omega, HX2, HOWN.out, HB.out⟩
          case measure => simp [intOf]; omega
        · rw [if_neg hqe] at HI
          have HX3 := hide_ (show X = (some acc, 0, 0) by rw [HX2.out, toksAt_ge s sg q (by omega)]; unfold addTk; simp)
          clear HX2
          go_wp2_with fail
          refine (HI.out _).mono ?_
          rintro e w3 ⟨rfl, rfl⟩
          go_wp2
          rw [Exit.noGoto_ret]
          go_ret3
          rw [HX3.out]
          exact ⟨_, rfl, HOWN.out, HB.out⟩
      have e35 : (bt s m == 35) = false := by rw [hbm]; simp; omega
      have HT := hide_ (HTOK.out m wr hlt HB.out)
      obtain ⟨K, E, ER, hT⟩ : ∃ K E ER, tokN s sg m = (K, E, ER) := ⟨_, _, _, rfl⟩
      have hend := tokN_end s sg m hlt
      by_cases her : ER = 0
      · subst her
        rw [hT] at hend
        simp only at hend
        have hend2 := hend trivial
        obtain ⟨q, rfl⟩ : ∃ q : Nat, E = q := ⟨E.toNat, by omega⟩
        have HX2 := hide_ (show X = addTk (acc ++ [(K, m, q)]) (toksAt s sg q) by rw [HX.out, toksAt_tok s sg m q K hlt hbl h35 hT, addTk_add])
        rw [hT] at HT
        have hmq : m < q := by omega
        have hqs : q ≤ s.size := by omega
        clear HX hbl hbm hT hend hend2 h35
        go_wp2_with fail
        refine HT.out.mono ?_
        rintro e w3 ⟨rfl, hb3⟩
        have hO1 : Owns w3 w.heap.size [⟨36, 3, .slice A0 acc.length c0, acc.length, tkCells s acc⟩] := (one_row HOWN.out).below hb3
        have HO := hide_ hO1
        have HB3 := hide_ (HB.out.trans (hb3.mono HSZ.out))
        have HS3 := hide_ hb3.size
        clear hb3 hO1
        go_wp2_with (at_builtin; refine wpList_append_owns _ rfl (.tmp 55) (.tmp 63) 24 rfl w.heap.size _ 0 36 3 (.slice A0 acc.length c0) acc.length (tkCells s acc) rfl (HO.out.alloc _) (by have := HB3.out.size; simp; omega) i0 _ 32 Tryd.underlying24 hi0 hz0 hz1 hz2' rfl (by omega) rfl _ _ 1 1 [.int .u8 K, .int .i64 m, .string (s.extract m q)] rfl (reads_new w3 36 3 1 [.int .u8 K, .int .i64 m, .string (s.extract m q)] rfl) (by simp [Value.oneCell']) (by simp only [maxLen]; omega) (by omega) ?_)
        intro v1 w4 hO1 hb1 hsz1
        have HB4 := hide_ ((HB3.out.alloc HB3.out.size _).trans hb1)
        have HO4 := hide_ (hO1.at_ (i := 0) rfl)
        clear hO1 hb1 hsz1
        go_wp2
        go_roundw
        case rel => exact ⟨q, acc ++ [(K, m, q)], rfl, by omega, by simp; omega, HX2, by rw [tkCells_snoc, List.length_append]; exact HO4.out, HB4.out⟩
        case measure => simp [intOf]; omega
      · have HX2 := hide_ (show X = (none, E, ER) by rw [HX.out, toksAt_bad s sg m hlt hbl h35 (by rw [hT]; exact her), hT]; rfl)
        rw [hT] at HT
        have d2 : (ER != 0) = true := bne_iff_ne.2 her
        clear HX hbl hbm hT hend h35 her
        go_wp2_with fail
        refine HT.out.mono ?_
        rintro e w3 ⟨rfl, hb3⟩
        have HB3 := hide_ (HB.out.trans (hb3.mono HSZ.out))
        clear hb3
        go_wp2
        rw [Exit.noGoto_ret]
        go_ret3
        rw [HX2.out]
        exact ⟨_, rfl, World.ownsRow_nil _ _ _ _, HB3.out⟩
    · have HX2 := hide_ (show X = (some acc, 0, 0) by rw [HX.out, toksAt_ge s sg m (by omega)]; unfold addTk; simp)
      clear HX
      go_wp2
      rw [Exit.noGoto_ret]
      go_ret3
      rw [HX2.out]
      exact ⟨_, rfl, HOWN.out, HB.out⟩
end Go.Proofs.YtmbofpeedjlfhaaDoor
