/-
  Two images of one text are one image: plain law.
-/
import Derived.Test.YtikbegmodacopaaGreatDoorApQ
namespace Go.Proofs.YtikbegmodacopaaGreatDoor
open Go.RowKit Go.PlainAid
set_option linter.unusedSimpArgs false
set_option linter.unusedVariables false
set_option maxRecDepth 100000
theorem codChk_all : ∀ {l : List (Int × Int)}, codChk l = 0 → ∀ t ∈ l, opChk t.1 t.2 = 0
  | [], _, t, ht => by cases ht
  | u :: l, h, t, ht => by
    unfold codChk at h
    split at h
    · rename_i h1
      rcases List.mem_cons.1 ht with rfl | ht
      · exact h1
      · exact codChk_all h t ht
    · rename_i h1
      exact absurd h h1
theorem ic_parts {x : ImgV} (h : imgChk x = 0) : codChk x.code = 0 ∧ x.stack ≠ 0 := by
  unfold imgChk at h
  split at h
  · cases h
  · split at h
    · rename_i h1
      exact absurd h h1
    · rename_i h1
      split at h
      · cases h
      · split at h
        · cases h
        · rename_i h2
          refine ⟨by simpa using h1, fun hs => h2 (.inl ?_)⟩
          rw [hs]
          decide
theorem cutL (c : UInt8) {a b r q : List UInt8} (hr : c ∉ r) (hq : c ∉ q) (h : a ++ c :: r = b ++ c :: q) : a = b ∧ r = q := by
  have h1 := congrArg List.reverse h
  simp only [List.reverse_append, List.reverse_cons, List.append_assoc, List.singleton_append] at h1
  obtain ⟨e1, e2⟩ := cut1 c (by simpa using hr) (by simpa using hq) h1
  exact ⟨List.reverse_inj.1 e2, List.reverse_inj.1 e1⟩
def hd (l : List UInt8) : UInt8 := l.headD 0
theorem numsB_u8 (s : ByteArray) : ∀ c ∈ numsB s, isByte c := by
  intro c hc
  obtain ⟨b, _, rfl⟩ := List.mem_map.1 hc
  have := b.toNat_lt
  exact ⟨by omega, by omega⟩
theorem numsB_inj {s t : ByteArray} (h : numsB s = numsB t) : s = t := ubl_inj (map_on (fun a _ b _ e => UInt8.toNat_inj.1 (by omega)) h)
theorem entL_inj {s t : ExpV} (hs : 0 ≤ s.at_) (ht : 0 ≤ t.at_) (h : entL s = entL t) : s = t := by
  unfold entL at h
  have h1 := List.append_cancel_left h
  have n44 : ∀ p, (44 : UInt8) ∉ (32 :: natU p) := fun p hc => by
    rcases List.mem_cons.1 hc with hc | hc
    · revert hc; decide
    · exact natU_not (by decide) (by decide) (by decide) hc
  obtain ⟨e1, e2⟩ := cutL 44 (n44 _) (n44 _) h1
  have e3 := numsB_inj (litL_inj (numsB_u8 _) (numsB_u8 _) e1)
  have e4 := natU_inj hs ht (List.cons.inj e2).2
  cases s
  cases t
  simp only [ExpV.mk.injEq]
  exact ⟨e3, e4⟩
theorem targL_inj {a b : Int} (ha : 0 ≤ a) (hb : 0 ≤ b) (h : targL a = targL b) : a = b := natU_inj ha hb (List.append_cancel_left h)
/-! ### No line holds a newline -/
def noNl (l : List UInt8) : Prop := (10 : UInt8) ∉ l
theorem nl_app {a b : List UInt8} (ha : noNl a) (hb : noNl b) : noNl (a ++ b) := fun h => by
  rcases List.mem_append.1 h with h | h
  · exact ha h
  · exact hb h
theorem nl_nat (p : Int) : noNl (natU p) := natU_not (by decide) (by decide) (by decide)
theorem nl_dec (n : Nat) : noNl (Lib.decDigits n) := dec_not (by decide)
theorem nl_of {l : List UInt8} (h : (l.all fun c => c != 10) = true) : noNl l := fun hc => by
  have := List.all_eq_true.1 h 10 hc
  revert this
  decide
theorem codeLs_mem {x : ImgV} (h : ∀ t ∈ x.code, InsOk t) : ∀ k i, ∀ l ∈ codeLs x k i, (hd l = 9 ∨ hd l = 97) ∧ noNl l := by
  have hlab : ∀ i, ∀ l ∈ labs x i, (hd l = 9 ∨ hd l = 97) ∧ noNl l := fun i l hl => by
    obtain ⟨p, rfl⟩ := labs_mem hl
    exact ⟨.inr rfl, nl_app (nl_nat p) (nl_of rfl)⟩
  intro k
  induction k with
  | zero => exact fun i l hl => hlab i l hl
  | succ k ih =>
    intro i l hl
    rcases List.mem_append.1 hl with hl | hl
    · exact hlab i l hl
    · rcases List.mem_append.1 hl with hl | hl
      · cases hc : x.code[i]? with
        | none => rw [hc] at hl; cases hl
        | some t =>
          rw [hc] at hl
          obtain rfl := List.mem_singleton.1 hl
          exact ⟨.inl rfl, insL_nl (h t (List.mem_of_getElem? hc))⟩
      · exact ih (i + 1) l hl
theorem labs_no9 (x : ImgV) (i : Nat) : (labs x i).filter (fun l => hd l == 9) = [] := by
  rw [List.filter_eq_nil_iff]
  intro l hl
  obtain ⟨p, rfl⟩ := labs_mem hl
  exact Bool.false_ne_true
theorem codeLs_9 (x : ImgV) : ∀ k i, i + k ≤ x.code.length → (codeLs x k i).filter (fun l => hd l == 9) = ((x.code.drop i).take k).map (insL x.code.length)
  | 0, i, _ => by
    rw [List.take_zero]
    exact labs_no9 x i
  | k + 1, i, h => by
    have hi : x.code[i]? = some x.code[i] := List.getElem?_eq_getElem (by omega)
    rw [codeLs_s hi, List.filter_append, List.filter_append, labs_no9, codeLs_9 x k (i + 1) (by omega), List.drop_eq_getElem_cons (show i < x.code.length by omega), List.take_succ_cons, List.map_cons, List.nil_append]
    rfl
theorem dataLs_nl {R : List (List Int)} (h : ∀ l ∈ R, ∀ c ∈ l, isByte c) : ∀ l ∈ dataLs R, noNl l := by
  unfold dataLs
  split
  · intro l hl; cases hl
  · intro l hl
    rcases List.mem_cons.1 hl with rfl | hl
    · exact nl_of rfl
    · obtain ⟨c, hc, rfl⟩ := List.mem_map.1 hl
      exact nl_app (nl_of rfl) (litL_nl (h c hc))
theorem zeroLs_nl (z : Int) : ∀ l ∈ zeroLs z, noNl l := by
  unfold zeroLs
  split
  · intro l hl; cases hl
  · intro l hl
    rcases List.mem_cons.1 hl with rfl | hl
    · exact nl_of rfl
    · obtain rfl := List.mem_singleton.1 hl
      exact nl_app (nl_of rfl) (nl_dec _)
theorem txtLs_nl {x : ImgV} {R : List (List Int)} (h : ∀ t ∈ x.code, InsOk t) (hR : ∀ l ∈ R, ∀ c ∈ l, isByte c) : ∀ l ∈ txtLs x R, noNl l := by
  intro l hl
  unfold txtLs at hl
  simp only [List.mem_cons, List.mem_append, List.mem_map] at hl
  rcases hl with rfl | hl | hl | hl | rfl | ⟨p, _, rfl⟩ | ⟨t, _, rfl⟩
  · exact nl_of rfl
  · exact (codeLs_mem h _ _ l hl).2
  · exact dataLs_nl hR l hl
  · exact zeroLs_nl _ l hl
  · exact nl_app (nl_of rfl) (nl_dec _)
  · exact nl_app (nl_of rfl) (nl_nat p)
  · exact nl_app (nl_of rfl) (nl_app (litL_nl (numsB_u8 _)) (nl_app (nl_of rfl) (nl_app (a := [32]) (nl_of rfl) (nl_nat _))))
/-! ### What the lines tell -/
theorem head_z {z n : Int} {q : List (List UInt8)} {l : List UInt8} (h : (zeroLs z ++ (stackL n :: q)).head? = some l) : hd l = 122 ∨ hd l = 115 := by
  unfold zeroLs at h
  split at h
  · obtain rfl := Option.some.inj h
    exact .inr rfl
  · obtain rfl := Option.some.inj h
    exact .inl rfl
theorem head_d {R : List (List Int)} {z n : Int} {q : List (List UInt8)} {l : List UInt8} (h : (dataLs R ++ (zeroLs z ++ (stackL n :: q))).head? = some l) : hd l = 100 ∨ hd l = 122 ∨ hd l = 115 := by
  unfold dataLs at h
  split at h
  · exact .inr (head_z h)
  · obtain rfl := Option.some.inj h
    exact .inl rfl
theorem data_part {R Q : List (List Int)} {U V : List (List UInt8)} (hU : ∀ l, U.head? = some l → hd l = 122 ∨ hd l = 115) (hV : ∀ l, V.head? = some l → hd l = 122 ∨ hd l = 115) (h : dataLs R ++ U = dataLs Q ++ V) : R.map byteL = Q.map byteL ∧ U = V := by
  unfold dataLs at h
  split at h <;> split at h
  · rename_i h1 h2
    rw [h1, h2]
    exact ⟨rfl, h⟩
  · rw [List.nil_append] at h
    have := hU [100, 97, 116, 97] (by rw [h]; rfl)
    exact absurd this (by decide)
  · rw [List.nil_append] at h
    have := hV [100, 97, 116, 97] (by rw [← h]; rfl)
    exact absurd this (by decide)
  · rw [List.cons_append, List.cons_append, List.cons.injEq] at h
    refine part (fun l => hd l == 9) ?_ ?_ ?_ ?_ h.2
    · intro l hl
      obtain ⟨c, _, rfl⟩ := List.mem_map.1 hl
      rfl
    · intro l hl
      obtain ⟨c, _, rfl⟩ := List.mem_map.1 hl
      rfl
    · intro l hl
      rcases hU l hl with e | e <;> rw [e] <;> decide
    · intro l hl
      rcases hV l hl with e | e <;> rw [e] <;> decide
theorem stackL_inj {a b : Int} (ha : 0 ≤ a) (hb : 0 ≤ b) (h : stackL a = stackL b) : a = b := by
  have := dec_inj (List.append_cancel_left h)
  omega
theorem zero_part {a b n m : Int} {q r : List (List UInt8)} (ha : 0 ≤ a) (hb : 0 ≤ b) (hn : 0 ≤ n) (hm : 0 ≤ m) (h : zeroLs a ++ (stackL n :: q) = zeroLs b ++ (stackL m :: r)) : a = b ∧ n = m ∧ q = r := by
  unfold zeroLs at h
  split at h <;> split at h
  · rename_i h1 h2
    rw [List.nil_append, List.nil_append, List.cons.injEq] at h
    exact ⟨by omega, stackL_inj hn hm h.1, h.2⟩
  · rw [List.nil_append, List.cons_append, List.cons.injEq] at h
    have := congrArg hd h.1
    exact absurd this (by show ¬ (115 : UInt8) = 122; decide)
  · rw [List.nil_append, List.cons_append, List.cons.injEq] at h
    have := congrArg hd h.1
    exact absurd this (by show ¬ (122 : UInt8) = 115; decide)
  · simp only [List.cons_append, List.nil_append, List.cons.injEq, true_and] at h
    have := dec_inj h.1
    exact ⟨by omega, stackL_inj hn hm h.2.1, h.2.2⟩
theorem rest_part {a b : List Int} {s t : List ExpV} (ha : ∀ p ∈ a, 0 ≤ p) (hb : ∀ p ∈ b, 0 ≤ p) (hs : ∀ p ∈ s, 0 ≤ p.at_) (ht : ∀ p ∈ t, 0 ≤ p.at_) (h : a.map targL ++ s.map entL = b.map targL ++ t.map entL) : a = b ∧ s = t := by
  have hh : ∀ (s : List ExpV) (l : List UInt8), (s.map entL).head? = some l → (hd l == 116) = false := fun s l hl => by
    cases s with
    | nil => cases hl
    | cons p s =>
      obtain rfl := Option.some.inj hl
      rfl
  have hg : ∀ (a : List Int), ∀ l ∈ a.map targL, (hd l == 116) = true := fun a l hl => by
    obtain ⟨p, _, rfl⟩ := List.mem_map.1 hl
    rfl
  obtain ⟨e1, e2⟩ := part (fun l => hd l == 116) (hg a) (hg b) (hh s) (hh t) h
  exact ⟨map_on (fun p hp q hq e => targL_inj (ha p hp) (hb q hq) e) e1, map_on (fun p hp q hq e => entL_inj (hs p hp) (ht q hq) e) e2⟩
theorem imgs_ins {x : ImgV} (hx : ImgOk x) (h : codChk x.code = 0) : ∀ t ∈ x.code, InsOk t := fun t ht => ⟨codChk_all h t ht, (hx.code t ht).2⟩
theorem txtLs_inj {x y : ImgV} {R Q : List (List Int)} (hx : ImgOk x) (hy : ImgOk y) (cx : codChk x.code = 0) (cy : codChk y.code = 0) (hR : R.flatten = x.data) (hQ : Q.flatten = y.data) (h : txtLs x R = txtLs y Q) : x = y := by
  have ix := imgs_ins hx cx
  have iy := imgs_ins hy cy
  have bR : ∀ l ∈ R, ∀ c ∈ l, isByte c := fun l hl c hc => hx.data c (by rw [← hR]; exact List.mem_flatten.2 ⟨l, hl, hc⟩)
  have bQ : ∀ l ∈ Q, ∀ c ∈ l, isByte c := fun l hl c hc => hy.data c (by rw [← hQ]; exact List.mem_flatten.2 ⟨l, hl, hc⟩)
  unfold txtLs at h
  rw [List.cons.injEq] at h
  obtain ⟨e1, h⟩ := part (fun l => hd l == 9 || hd l == 97) (fun l hl => by rcases (codeLs_mem ix _ _ l hl).1 with e | e <;> simp [e]) (fun l hl => by rcases (codeLs_mem iy _ _ l hl).1 with e | e <;> simp [e])
    (fun l hl => by rcases head_d hl with e | e | e <;> simp [e]) (fun l hl => by rcases head_d hl with e | e | e <;> simp [e]) h.2
  obtain ⟨e2, h⟩ := data_part (fun l hl => head_z hl) (fun l hl => head_z hl) h
  obtain ⟨e3, e4, h⟩ := zero_part hx.zero.1 hy.zero.1 hx.stack.1 hy.stack.1 h
  obtain ⟨e5, e6⟩ := rest_part (fun p hp => (hx.jumps p hp).1) (fun p hp => (hy.jumps p hp).1) (fun p hp => (hx.names p hp).2.1) (fun p hp => (hy.names p hp).2.1) h
  have e7 : R = Q := map_on (fun a ha b hb e => litL_inj (bR a ha) (bQ b hb) (List.append_cancel_left e)) e2
  have e8 := congrArg (List.filter fun l => hd l == 9) e1
  rw [codeLs_9 x _ _ (by omega), codeLs_9 y _ _ (by omega), List.drop_zero, List.drop_zero, List.take_length, List.take_length] at e8
  have hl : x.code.length = y.code.length := by simpa using congrArg List.length e8
  rw [hl] at e8
  have e9 : x.code = y.code := map_on (fun a ha b hb e => insL_inj (ix a ha) (iy b hb) e) e8
  have e10 : x.data = y.data := by rw [← hR, ← hQ, e7]
  cases x
  cases y
  simp only [ImgV.mk.injEq]
  exact ⟨e9, e5, e10, e3, e4, e6⟩
theorem te_parts {x : ImgV} (h : txtE x = 0) : objE x = 0 ∧ txtS x = bodyT (objO x) := by
  unfold txtE at h
  split at h
  · rename_i h0
    refine ⟨h0, ?_⟩
    unfold txtS
    rw [if_pos h0]
    unfold prtE at h
    unfold prtS
    split at h
    · rename_i h1
      rw [if_pos h1]
      split at h
      · cases h
      · rename_i h2
        rw [if_neg h2]
    · cases h
  · rename_i h0
    exact absurd h h0
/-- two images of one text are one image -/
theorem txt_inj {x y : ImgV} (hx : ImgOk x) (hy : ImgOk y) (h1 : txtE x = 0) (h2 : txtE y = 0) (h : txtS x = txtS y) : x = y := by
  obtain ⟨o1, t1⟩ := te_parts h1
  obtain ⟨o2, t2⟩ := te_parts h2
  obtain ⟨c1, s1⟩ := ic_parts (oe_parts o1).1
  obtain ⟨c2, s2⟩ := ic_parts (oe_parts o2).1
  obtain ⟨R, hR, e1⟩ := body_ubl hx.zero.1 s1
  obtain ⟨Q, hQ, e2⟩ := body_ubl hy.zero.1 s2
  rw [t1, t2] at h
  refine txtLs_inj hx hy c1 c2 hR hQ (unl_inj (txtLs_nl (imgs_ins hx c1) fun l hl c hc => hx.data c (by rw [← hR]; exact List.mem_flatten.2 ⟨l, hl, hc⟩)) (txtLs_nl (imgs_ins hy c2) fun l hl c hc => hy.data c (by rw [← hQ]; exact List.mem_flatten.2 ⟨l, hl, hc⟩)) ?_)
  rw [← e1, ← e2, h]
end Go.Proofs.YtikbegmodacopaaGreatDoor
