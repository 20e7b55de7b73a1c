/-
  The walk of the statement TextTokens.
-/
import Derived.Test.YtmbofpeedjlfhaaDoorApK
import Derived.Test.YtmbofpeedjlfhaaDoorSeeS
namespace Go.Proofs.YtmbofpeedjlfhaaDoor
open Go.RowKit Go.PlainAid Go.BigFrame
set_option linter.unusedVariables false
set_option maxRecDepth 100000

theorem stand_len (s : ByteArray) : ∀ (l : List Tk) (i : Nat), Stand s i l → i + l.length ≤ s.size := by
  intro l
  induction l with
  | nil => intro i h; have := h.1; simp; omega
  | cons a l ih =>
    intro i h
    obtain ⟨h1, h2, h3, _, h5⟩ := h
    have := ih _ h5
    simp only [List.length_cons]
    omega
theorem toksN_len (s : ByteArray) (sg : List ByteArray) : ((toksN s sg).1.getD []).length ≤ 524288 := by
  rcases toksN_or s sg with ⟨l, hl, hst, hs⟩ | ⟨p, er, hl, _⟩
  · rw [hl]
    have := stand_len s l 0 hst
    simp only [Option.getD_some]
    omega
  · rw [hl]
    simp
set_option maxHeartbeats 1000000 in
theorem sameTokens_any (s : ByteArray) (Av : Option Addr) (nv cv : Nat) (A : Option Addr) (n c B : Nat) (sg : List ByteArray) (w : World) (hz : s.size ≤ 140737488351232) (hn : n ≤ 140737488351232) (hsz : ∀ g ∈ sg, g.size ≤ 140737488351232) (hr : Reads w B 1 A n (strV sg)) (hB : B ≤ w.heap.size)
    (hv : Reads w B 3 Av nv (tkCells s ((toksN s sg).1.getD []))) :
    Calls Tryd.prog 10 #[.slice Av nv cv, .int .i64 (toksN s sg).2.1, .int .i64 (toksN s sg).2.2, .string s, .slice A n c] w fun e w' => e = .returned (.bool true) ∧ Below w.heap.size w w' := by
  have HT := hide_ (rtokens_any s A n c B sg w hz hn hsz hr hB)
  have hlen := toksN_len s sg
  obtain ⟨o, p, er, hx⟩ : ∃ o p er, toksN s sg = (o, p, er) := ⟨_, _, _, rfl⟩
  rw [hx] at HT hv hlen ⊢
  unfold ToksIs at HT
  simp only at HT hv hlen ⊢
  obtain ⟨l, hl⟩ : ∃ l, l = o.getD [] := ⟨_, rfl⟩
  rw [← hl] at HT hv hlen
  have hnv : nv = l.length := by have := hv.1; rw [tkCells_len] at this; omega
  subst hnv
  have HV := hide_ hv
  have HLEN := hide_ hlen
  have HBB := hide_ hB
  clear hx hl hr hsz hv hlen hB
  go_enter Tryd.func10, Tryd.ntmps10
  go_wp2_with fail
  refine HT.out.mono ?_
  rintro e w2 ⟨v, rfl, hown, hb⟩
  obtain ⟨A2, c2, rfl, hc0, hc1⟩ := ownsRow_slice hown
  have HS := hide_ (SameTokens_any Av A2 l.length cv c2 w2.heap.size s l w2 (by have := HLEN.out; omega) ((HV.out.below (hb.mono HBB.out)).more (Nat.le_trans HBB.out hb.size)) (Reads.of_own hown) (Nat.le_refl _))
  have HB := hide_ hb
  clear hown hb hc0 hc1
  go_wp2_with fail
  refine HS.out.mono ?_
  rintro e w3 ⟨rfl, hd⟩
  have HB3 := hide_ (HB.out.trans (hd.below _))
  clear hd
  go_wp2
  go_ret
  exact ⟨by simp, HB3.out⟩
/-- a row of texts that is lent -/
def lentT (g n c : Nat) (xs : List ByteArray) : Ro := ⟨9, 1, .slice (some ⟨g, 0, none⟩) n c, n, strV xs⟩
/-- a row of tokens -/
def tokT (A : Option Addr) (c : Nat) (s : ByteArray) (l : List Tk) : Ro := ⟨36, 3, .slice A l.length c, l.length, tkCells s l⟩
theorem lent_reads {W : World} {B g n m c : Nat} {X Y : List ByteArray} {rs : List Ro} (hO : Owns W B (lentT g m c (X ++ Y) :: rs)) (hX : X.length = n) : Reads W W.heap.size 1 (some ⟨g, 0, none⟩) n (strV X) := by
  have h0 : (lentT g m c (X ++ Y) :: rs)[0]? = some (lentT g m c (X ++ Y)) := rfl
  refine ⟨by unfold strV; simp [hX], fun _ => ⟨_, rfl, (hO.base h0).2, fun j u hu => ?_⟩⟩
  have e1 : (⟨g, 0, none⟩ : Addr).add j = ⟨g, j, none⟩ := by unfold Addr.add; split <;> simp_all
  rw [e1]
  refine hO.cell h0 ?_
  rw [strV_app, List.getElem?_append_left (List.getElem?_eq_some_iff.1 hu).1]
  exact hu
theorem toks_rows (t : ByteArray) (g n m c B : Nat) (X Y : List ByteArray) (rs : List Ro) (W : World) (ht : t.size ≤ 140737488351232) (hn : n ≤ 140737488351232) (hnc : n ≤ c) (hX : X.length = n) (hO : Owns W B (lentT g m c (X ++ Y) :: rs)) (hB : B ≤ W.heap.size) :
    Calls Tryd.prog 9 #[.string t, .slice (some ⟨g, 0, none⟩) n c] W fun e W' => ∃ Av cv, e = .returned (.tuple #[.slice Av ((toksN t X).1.getD []).length cv, .int .i64 (toksN t X).2.1, .int .i64 (toksN t X).2.2]) ∧ Owns W' B (lentT g m c (X ++ Y) :: rs ++ [tokT Av cv t ((toksN t X).1.getD [])]) ∧ Below W.heap.size W W' := by
  refine (tokens_any t (some ⟨g, 0, none⟩) n c W.heap.size X W ht hn hnc (lent_reads hO hX) (Nat.le_refl _)).mono ?_
  rintro e W' ⟨v, rfl, hown, hb⟩
  obtain ⟨A2, c2, rfl, _, _⟩ := ownsRow_slice hown
  exact ⟨A2, c2, rfl, hO.push hb (r := tokT A2 c2 t ((toksN t X).1.getD [])) hown hB, hb⟩
theorem tok_reads {W : World} {B i : Nat} {A : Option Addr} {c : Nat} {s : ByteArray} {l : List Tk} {rs : List Ro} (hO : Owns W B rs) (h : rs[i]? = some (tokT A c s l)) : Reads W W.heap.size 3 A l.length (tkCells s l) := Reads.of_own (hO.at_ h)
/-- a list of tokens as the marks have it -/
def tv (s : ByteArray) (l : List Tk) : List TokV := l.map fun t => (t.1, ((t.2.1 : Nat) : Int), s.extract t.2.1 t.2.2)
def at4 {α : Type} (a b c d : α) (j : Nat) : α := if j = 0 then a else if j = 1 then b else if j = 2 then c else d
theorem apart4 (W : World) (B : Nat) (L : Ro) (s1 s2 s3 s4 : ByteArray) (l1 l2 l3 l4 : List Tk) (A1 A2 A3 A4 : Option Addr) (c1 c2 c3 c4 : Nat) (hO : Owns W B [L, tokT A1 c1 s1 l1, tokT A2 c2 s2 l2, tokT A3 c3 s3 l3, tokT A4 c4 s4 l4]) (hB : B ≤ W.heap.size)
    (h1 : l1.length ≤ 524288) (h2 : l2.length ≤ 524288) (h3 : l3.length ≤ 524288) (h4 : l4.length ≤ 524288) :
    Calls Tryd.prog 12 #[.slice (some ⟨W.heap.size, 0, none⟩) 4 4] (W.alloc (.cells #[.slice A1 l1.length c1, .slice A2 l2.length c2, .slice A3 l3.length c3, .slice A4 l4.length c4] 24)) fun e w' => e = .returned (.bool true) ∧ Owns w' B [L] ∧ Below B W w' := by
  have hbox := hO.box 24 #[.slice A1 l1.length c1, .slice A2 l2.length c2, .slice A3 l3.length c3, .slice A4 l4.length c4] hB (show 4 ≤ maxLen by unfold maxLen; decide)
  have e4 : ∀ r : Nat → Ro, rowsF 4 r = [r 0, r 1, r 2, r 3] := fun r => rfl
  have hO2 : Owns (W.alloc (.cells #[.slice A1 l1.length c1, .slice A2 l2.length c2, .slice A3 l3.length c3, .slice A4 l4.length c4] 24)) B (rowsF 4 (rowB (at4 (.slice A1 l1.length c1) (.slice A2 l2.length c2) (.slice A3 l3.length c3) (.slice A4 l4.length c4)) (at4 l1.length l2.length l3.length l4.length) (at4 (tv s1 l1) (tv s2 l2) (tv s3 l3) (tv s4 l4))) ++ lsRow (some ⟨W.heap.size, 0, none⟩) 4 4 (at4 (.slice A1 l1.length c1) (.slice A2 l2.length c2) (.slice A3 l3.length c3) (.slice A4 l4.length c4)) :: [L]) := by
    rw [e4]
    have er : ∀ (A : Option Addr) (c : Nat) (s : ByteArray) (l : List Tk), tokT A c s l = ⟨36, 3, .slice A l.length c, l.length, tCells (tv s l)⟩ := fun A c s l => by unfold tokT tv; rw [tCells_tk]
    rw [er, er, er, er] at hbox
    have hbox' : Owns (W.alloc (.cells #[.slice A1 l1.length c1, .slice A2 l2.length c2, .slice A3 l3.length c3, .slice A4 l4.length c4] 24)) B ([L, ⟨36, 3, .slice A1 l1.length c1, l1.length, tCells (tv s1 l1)⟩, ⟨36, 3, .slice A2 l2.length c2, l2.length, tCells (tv s2 l2)⟩, ⟨36, 3, .slice A3 l3.length c3, l3.length, tCells (tv s3 l3)⟩, ⟨36, 3, .slice A4 l4.length c4, l4.length, tCells (tv s4 l4)⟩] ++ [⟨24, 1, .slice (some ⟨W.heap.size, 0, none⟩) 4 4, 4, [.slice A1 l1.length c1, .slice A2 l2.length c2, .slice A3 l3.length c3, .slice A4 l4.length c4]⟩]) := hbox
    clear hbox
    exact Owns.perm hbox' fun cnt one e1 e2 e3 => by
      simp only [List.cons_append, List.nil_append, e2, e3, rowB, lsRow, at4]
      simp only [if_true, if_neg (show ¬ (1 : Nat) = 0 by decide), if_neg (show ¬ (2 : Nat) = 0 by decide), if_neg (show ¬ (2 : Nat) = 1 by decide), if_neg (show ¬ (3 : Nat) = 0 by decide), if_neg (show ¬ (3 : Nat) = 1 by decide), if_neg (show ¬ (3 : Nat) = 2 by decide)]
      rw [show (List.range 4).map (at4 (Value.slice A1 l1.length c1) (.slice A2 l2.length c2) (.slice A3 l3.length c3) (.slice A4 l4.length c4)) = [.slice A1 l1.length c1, .slice A2 l2.length c2, .slice A3 l3.length c3, .slice A4 l4.length c4] from rfl]
      omega
  refine (ApartK_any _ 4 4 B _ _ _ [L] _ hO2 (fun j hj => ?_) (by simp; omega) (fun j hj => ?_) (by decide)).mono ?_
  · unfold at4 tv
    repeat' split
    all_goals simp
  · unfold at4
    repeat' split
    all_goals omega
  · rintro e w' ⟨rfl, h5, h6⟩
    exact ⟨rfl, h5, ((Below.refl B W).alloc hB _).trans h6⟩
def plusL (m : Nat) : List ByteArray := List.replicate m ⟨#[43]⟩
theorem plusL_succ (m : Nat) : plusL (m + 1) = plusL m ++ [⟨#[43]⟩] := by unfold plusL; rw [List.replicate_succ']
theorem plusL_len (m : Nat) : (plusL m).length = m := by simp [plusL]
theorem plus_set (Y : List ByteArray) (m : Nat) (h : m < Y.length) : (strV (plusL m ++ Y.drop m)).set m (.string ⟨#[43]⟩) = strV (plusL (m + 1) ++ Y.drop (m + 1)) := by
  unfold strV
  rw [← List.map_set, List.drop_eq_getElem_cons h, List.set_append_right _ _ (by rw [plusL_len]; omega), plusL_len, Nat.sub_self, List.set_cons_zero, plusL_succ]
  simp
set_option maxHeartbeats 8000000 in
theorem TextTokens_walk (s other : ByteArray) (A : Option Addr) (n c : Nat) (sg : List ByteArray) (w : World) (hz : s.size ≤ 140737488351232) (hz2 : other.size ≤ 140737488351232) (hnc : n ≤ c) (hn16 : n * 16 + 1024 ≤ 140737488355328) (hsz : ∀ g ∈ sg, g.size ≤ 140737488351232) (hr : Reads w w.heap.size 1 A n (strV sg)) :
    Calls Tryd.prog 3 #[.string s, .slice A n c, .string other] w fun e w' => e = .returned (.bool true) ∧ Below w.heap.size w w' := by
  obtain ⟨i0, hi0, hy0, hy1, hy2⟩ := info_parts str_info
  have hlen : sg.length = n := by have := hr.1; simpa [strV] using this
  have hn : n ≤ 140737488351232 := by omega
  have HR := hide_ hr
  have HLEN := hide_ hlen
  have HSZ := hide_ hsz
  have HLT := hide_ (LentTexts_any A n c w.heap.size sg w hn16 hr (Nat.le_refl _))
  have HZ := hide_ hz
  have HZ2 := hide_ hz2
  have HN := hide_ hn
  have HN16 := hide_ hn16
  have HPL : Hid (∀ g ∈ plusL n, g.size ≤ 140737488351232) := hide_ (fun g hg => by rw [List.eq_of_mem_replicate hg]; decide)
  clear hr hlen hsz hz hz2
  go_enter Tryd.func3, Tryd.ntmps3
  go_wp2_with fail
  refine HLT.out.mono ?_
  rintro e w1 ⟨v, rfl, hown, hb⟩
  obtain ⟨g, cL, rfl⟩ := ownsRow_some hown (by omega)
  have hcL : n + 64 ≤ cL := by
    obtain ⟨_, _, hv, h9, _⟩ := ownsRow_slice hown
    injection hv with _ _ hv
    omega
  have hncL : n ≤ cL := by omega
  have HO0 : Hid (Owns w1 w.heap.size [lentT g (n + 64) cL (sg ++ marksS 64)]) := hide_ (one_row (r := lentT g (n + 64) cL (sg ++ marksS 64)) hown)
  have HB0 := hide_ hb
  have HCL := hide_ hcL
  clear hown hb HLT hcL
  go_wp2_with fail
  refine (toks_rows s g n (n + 64) cL w.heap.size sg (marksS 64) _ w1 HZ.out HN.out hncL HLEN.out HO0.out HB0.out.size).mono ?_
  rintro e w2 ⟨Aa, ca, rfl, hO, hb⟩
  have HO1 : Hid (Owns w2 w.heap.size [lentT g (n + 64) cL (sg ++ marksS 64), tokT Aa ca s ((toksN s sg).1.getD [])]) := hide_ hO
  have HB1 := hide_ (HB0.out.trans (hb.mono HB0.out.size))
  clear hO hb HO0 HB0
  go_wp2_with fail
  refine (sameTokens_any s Aa _ ca A n c w2.heap.size sg w2 HZ.out HN.out HSZ.out ((HR.out.below HB1.out).more HB1.out.size) (Nat.le_refl _) (tok_reads HO1.out (i := 1) rfl)).mono ?_
  rintro e w3 ⟨rfl, hb⟩
  have HO2 : Hid (Owns w3 w.heap.size [lentT g (n + 64) cL (sg ++ marksS 64), tokT Aa ca s ((toksN s sg).1.getD [])]) := hide_ (HO1.out.below hb)
  have HB2 := hide_ (HB1.out.trans (hb.mono HB1.out.size))
  clear hb HO1 HB1
  go_wp2_with fail
  refine (KeptTexts_any (some ⟨g, 0, none⟩) A n cL c w3.heap.size sg w3 HN.out (Reads.of_own (HO2.out.at_ (i := 0) rfl)) ((HR.out.below HB2.out).more HB2.out.size) (Nat.le_refl _)).mono ?_
  rintro e w4 ⟨rfl, hb⟩
  have HO3 : Hid (Owns w4 w.heap.size [lentT g (n + 64) cL (sg ++ marksS 64), tokT Aa ca s ((toksN s sg).1.getD [])]) := hide_ (HO2.out.below hb)
  have HB3 := hide_ (HB2.out.trans (hb.mono HB2.out.size))
  clear hb HO2 HB2
  go_wp2_with fail
  refine (toks_rows s g n (n + 64) cL w.heap.size sg (marksS 64) _ w4 HZ.out HN.out hncL HLEN.out HO3.out HB3.out.size).mono ?_
  rintro e w5 ⟨Ab, cb, rfl, hO, hb⟩
  have HO4 : Hid (Owns w5 w.heap.size [lentT g (n + 64) cL (sg ++ marksS 64), tokT Aa ca s ((toksN s sg).1.getD []), tokT Ab cb s ((toksN s sg).1.getD [])]) := hide_ hO
  have HB4 := hide_ (HB3.out.trans (hb.mono HB3.out.size))
  clear hO hb HO3 HB3
  go_wp2_with fail
  refine (sameTokens_any s Ab _ cb A n c w5.heap.size sg w5 HZ.out HN.out HSZ.out ((HR.out.below HB4.out).more HB4.out.size) (Nat.le_refl _) (tok_reads HO4.out (i := 2) rfl)).mono ?_
  rintro e w6 ⟨rfl, hb⟩
  have HO5 : Hid (Owns w6 w.heap.size [lentT g (n + 64) cL (sg ++ marksS 64), tokT Aa ca s ((toksN s sg).1.getD []), tokT Ab cb s ((toksN s sg).1.getD [])]) := hide_ (HO4.out.below hb)
  have HB5 := hide_ (HB4.out.trans (hb.mono HB4.out.size))
  clear hb HO4 HB4
  go_wp2_with fail
  refine (toks_rows other g n (n + 64) cL w.heap.size sg (marksS 64) _ w6 HZ2.out HN.out hncL HLEN.out HO5.out HB5.out.size).mono ?_
  rintro e w7 ⟨Ac, cc, rfl, hO, hb⟩
  have HO6 : Hid (Owns w7 w.heap.size [lentT g (n + 64) cL (sg ++ marksS 64), tokT Aa ca s ((toksN s sg).1.getD []), tokT Ab cb s ((toksN s sg).1.getD []), tokT Ac cc other ((toksN other sg).1.getD [])]) := hide_ hO
  have HB6 := hide_ (HB5.out.trans (hb.mono HB5.out.size))
  clear hO hb HO5 HB5
  go_wp2_with fail
  refine (sameTokens_any other Ac _ cc A n c w7.heap.size sg w7 HZ2.out HN.out HSZ.out ((HR.out.below HB6.out).more HB6.out.size) (Nat.le_refl _) (tok_reads HO6.out (i := 3) rfl)).mono ?_
  rintro e w8 ⟨rfl, hb⟩
  have HO7 : Hid (Owns w8 w.heap.size [lentT g (n + 64) cL (sg ++ marksS 64), tokT Aa ca s ((toksN s sg).1.getD []), tokT Ab cb s ((toksN s sg).1.getD []), tokT Ac cc other ((toksN other sg).1.getD [])]) := hide_ (HO6.out.below hb)
  have HB7 := hide_ (HB6.out.trans (hb.mono HB6.out.size))
  clear hb HO6 HB6
  go_wp2_with fail
  refine (KeptTexts_any (some ⟨g, 0, none⟩) A n cL c w8.heap.size sg w8 HN.out (Reads.of_own (HO7.out.at_ (i := 0) rfl)) ((HR.out.below HB7.out).more HB7.out.size) (Nat.le_refl _)).mono ?_
  rintro e w9 ⟨rfl, hb⟩
  have HO8 : Hid (Owns w9 w.heap.size [lentT g (n + 64) cL (sg ++ marksS 64), tokT Aa ca s ((toksN s sg).1.getD []), tokT Ab cb s ((toksN s sg).1.getD []), tokT Ac cc other ((toksN other sg).1.getD [])]) := hide_ (HO7.out.below hb)
  have HB8 := hide_ (HB7.out.trans (hb.mono HB7.out.size))
  clear hb HO7 HB7
  go_wp2_with fail
  refine (toks_rows s g n (n + 64) cL w.heap.size sg (marksS 64) _ w9 HZ.out HN.out hncL HLEN.out HO8.out HB8.out.size).mono ?_
  rintro e w10 ⟨Ad, cd, rfl, hO, hb⟩
  have HO9 : Hid (Owns w10 w.heap.size [lentT g (n + 64) cL (sg ++ marksS 64), tokT Aa ca s ((toksN s sg).1.getD []), tokT Ab cb s ((toksN s sg).1.getD []), tokT Ac cc other ((toksN other sg).1.getD []), tokT Ad cd s ((toksN s sg).1.getD [])]) := hide_ hO
  have HB9 := hide_ (HB8.out.trans (hb.mono HB8.out.size))
  clear hO hb HO8 HB8
  go_wp2_with fail
  refine (sameTokens_any s Ad _ cd A n c w10.heap.size sg w10 HZ.out HN.out HSZ.out ((HR.out.below HB9.out).more HB9.out.size) (Nat.le_refl _) (tok_reads HO9.out (i := 4) rfl)).mono ?_
  rintro e w11 ⟨rfl, hb⟩
  have HO10 : Hid (Owns w11 w.heap.size [lentT g (n + 64) cL (sg ++ marksS 64), tokT Aa ca s ((toksN s sg).1.getD []), tokT Ab cb s ((toksN s sg).1.getD []), tokT Ac cc other ((toksN other sg).1.getD []), tokT Ad cd s ((toksN s sg).1.getD [])]) := hide_ (HO9.out.below hb)
  have HB10 := hide_ (HB9.out.trans (hb.mono HB9.out.size))
  clear hb HO9 HB9
  go_wp2_with fail
  refine (apart4 w11 w.heap.size (lentT g (n + 64) cL (sg ++ marksS 64)) s s other s _ _ _ _ Aa Ab Ac Ad ca cb cc cd HO10.out HB10.out.size (toksN_len s sg) (toksN_len s sg) (toksN_len other sg) (toksN_len s sg)).mono ?_
  rintro e w12 ⟨rfl, hO, hb⟩
  have HO11 : Hid (Owns w12 w.heap.size [lentT g (n + 64) cL (sg ++ marksS 64)]) := hide_ hO
  have HB11 := hide_ (HB10.out.trans hb)
  clear hO hb HO10 HB10

  go_wp2_with fail
  go_loopw [20] (fun i wr => ∃ m : Nat, m ≤ n ∧ i = .int .i64 m ∧ Hid (Owns wr w.heap.size [lentT g (n + 64) cL (plusL m ++ (sg ++ marksS 64).drop m)]) ∧ Below w.heap.size w wr) (fun i _ => n - (intOf i).toNat)
  case atStart => exact ⟨0, Nat.zero_le _, rfl, hide_ (by simpa [plusL] using HO11.out), HB11.out⟩
  case round =>
    clear HO11 HB11
    obtain ⟨m, hm, rfl, HO, hb⟩ := hrel
    have HB := hide_ hb
    by_cases hlt : m < n
    · have hml : m < (sg ++ marksS 64).length := by rw [List.length_append, HLEN.out]; omega
      have hr0 : [lentT g (n + 64) cL (plusL m ++ (sg ++ marksS 64).drop m)][0]? = some (lentT g (n + 64) cL (plusL m ++ (sg ++ marksS 64).drop m)) := rfl
      have hcell : ∃ u, wr.cell? ⟨g, m, none⟩ = some (.string u) := by
        refine ⟨(plusL m ++ (sg ++ marksS 64).drop m)[m]'(by rw [List.length_append, plusL_len, List.length_drop]; omega), HO.out.cell hr0 ?_⟩
        unfold strV
        rw [List.getElem?_map, List.getElem?_eq_getElem (by rw [List.length_append, plusL_len, List.length_drop]; omega)]
        rfl
      obtain ⟨u, hcu⟩ := hcell
      have hf := HO.out.frozen hr0 m
      have hgb := (HO.out.base hr0).1
      have hgl := (HO.out.base hr0).2
      have HST := hide_ (show Owns (wr.setCell ⟨g, m, none⟩ (.string ⟨#[43]⟩)) w.heap.size [lentT g (n + 64) cL (plusL (m + 1) ++ (sg ++ marksS 64).drop (m + 1))] by
        have h9 := HO.out.store hr0 (j := m) (by unfold strV; rw [List.length_map, List.length_append, plusL_len, List.length_drop]; omega) (.string ⟨#[43]⟩)
        rw [plus_set _ m hml] at h9
        exact h9)
      clear hr0 hml hb HO
      go_wp2
      go_roundw
      case rel => exact ⟨m + 1, by omega, by go_num, HST, HB.out.setCell (p := ⟨g, m, none⟩) hgb _⟩
      case measure => simp [intOf]; omega
    · obtain rfl : m = n := by omega
      have HO12 := hide_ (show Owns wr w.heap.size [lentT g (m + 64) cL (plusL m ++ marksS 64)] by
        have h9 := HO.out
        rw [List.drop_append_of_le_length (by rw [HLEN.out]; exact Nat.le_refl _), List.drop_of_length_le (by rw [HLEN.out]; exact Nat.le_refl _), List.nil_append] at h9
        exact h9)
      clear HO hb
      go_wp2_with fail
      refine (toks_rows s g m (m + 64) cL w.heap.size (plusL m) (marksS 64) _ wr HZ.out HN.out hncL (plusL_len m) HO12.out HB.out.size).mono ?_
      rintro e w13 ⟨Ae, ce, rfl, hO, hb⟩
      have HO13 := hide_ (show Owns w13 w.heap.size ([lentT g (m + 64) cL (plusL m ++ marksS 64), tokT Ae ce s ((toksN s (plusL m)).1.getD [])] ++ [⟨9, 1, .slice none 0 0, 0, strV (plusL 0)⟩]) from Owns.nilrow hO 9 1)
      have HB13 := hide_ (HB.out.trans (hb.mono HB.out.size))
      clear hO hb HO12 HB
      go_wp2_with fail
      go_loopw [24, 25] (fun v i W => ∃ (q Av cv : Nat) (Aq : Option Addr), q ≤ m ∧ i = .int .i64 q ∧ v = .slice Aq q cv ∧ Hid (Owns W w.heap.size [lentT g (m + 64) cL (plusL m ++ marksS 64), tokT Ae ce s ((toksN s (plusL m)).1.getD []), ⟨9, 1, .slice Aq q cv, q, strV (plusL q)⟩]) ∧ Below w.heap.size w W) (fun _ i _ => m - (intOf i).toNat)
      case atStart => exact ⟨0, 0, 0, none, Nat.zero_le _, rfl, rfl, HO13, HB13.out⟩
      case round =>
        clear HO13 HB13
        obtain ⟨q, _, cv, Aq, hq, rfl, rfl, HO, hb⟩ := hrel
        have HB := hide_ hb
        have HSW := hide_ hb.size
        clear hb
        by_cases hqm : q < m
        · go_wp2_with (at_builtin; refine wpList_append_owns _ rfl (.tmp 142) (.tmp 143) 22 rfl w.heap.size _ 2 9 1 (.slice Aq q cv) q (strV (plusL q)) rfl (HO.out.alloc _) (by have := HSW.out; rw [World.size_alloc]; omega) i0 _ 16 Tryd.underlying22 hi0 hy0 hy1 hy2 rfl (by omega) rfl _ _ 1 1 [.string ⟨#[43]⟩] rfl (reads_new wr 9 1 1 [.string ⟨#[43]⟩] rfl) (by simp [Value.oneCell']) (by simp only [maxLen]; omega) (by omega) ?_)
          intro v1 w14 hO1 hb1 hsz1
          obtain ⟨A14, c14, hv14, _, _⟩ := ownsRow_slice (hO1.at_ (i := 2) rfl)
          simp only at hv14
          subst hv14
          have HO14 := hide_ (show Owns w14 w.heap.size [lentT g (m + 64) cL (plusL m ++ marksS 64), tokT Ae ce s ((toksN s (plusL m)).1.getD []), ⟨9, 1, .slice A14 (q + 1) c14, q + 1, strV (plusL (q + 1))⟩] by
            rw [plusL_succ, strV_app]
            exact hO1)
          have HB14 := hide_ ((HB.out.alloc HSW.out _).trans hb1)
          clear hO1 hb1 hsz1
          go_wp2
          go_roundw
          case rel => exact ⟨q + 1, 0, c14, A14, by omega, by go_num, rfl, HO14, HB14.out⟩
          case measure => simp [intOf]; omega
        · obtain rfl : q = m := by omega
          go_wp2_with fail
          refine (sameTokens_any s Ae _ ce Aq q cv wr.heap.size (plusL q) wr HZ.out HN.out HPL.out (Reads.of_own (HO.out.at_ (i := 2) rfl)) (Nat.le_refl _) (tok_reads HO.out (i := 1) rfl)).mono ?_
          rintro e w15 ⟨rfl, hb⟩
          have HB15 := hide_ (HB.out.trans (hb.mono HSW.out))
          clear hb
          go_wp2
          go_ret
          exact ⟨rfl, HB15.out⟩
theorem TextTokens_raw {H : Type} {enc : TypeId × Value → H} {base : Nat} (s : ByteArray) (v : Value) (other : ByteArray) (w : World) (hz : s.size ≤ 140737488351232) (hv : Value.okWide Tryd.prog w .any base 22 v) (h : Seen enc Tryd.prog w true 22 v.cells.toList) (hz2 : other.size ≤ 140737488351232) :
    Calls Tryd.prog 3 #[.string s, v, .string other] w fun e w' => e = .returned (.bool true) ∧ Below w.heap.size w w' := by
  obtain ⟨A, n, c, xs, rfl, h1, h2, h3, h4⟩ := strs_arg hv h
  clear hv h
  exact TextTokens_walk s other A n c xs w hz hz2 h1 (by omega) h4 h3
end Go.Proofs.YtmbofpeedjlfhaaDoor
