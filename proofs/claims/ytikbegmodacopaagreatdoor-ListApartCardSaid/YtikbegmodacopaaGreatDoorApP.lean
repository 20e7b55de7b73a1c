/-
  A text is cut into its lines; what a line tells: plain law.
-/
import Derived.Test.YtikbegmodacopaaGreatDoorB27
namespace Go.Proofs.YtikbegmodacopaaGreatDoor
open Go.RowKit Go.PlainAid
set_option linter.unusedSimpArgs false
set_option linter.unusedVariables false
set_option maxRecDepth 100000
/-- a text's bytes -/
def ubl (b : ByteArray) : List UInt8 := b.data.toList
theorem ubl_app (a b : ByteArray) : ubl (a ++ b) = ubl a ++ ubl b := by simp [ubl]
theorem ubl_inj {a b : ByteArray} (h : ubl a = ubl b) : a = b := by
  apply ByteArray.ext
  apply Array.ext'
  exact h
theorem ubl_e0 : ubl e0B = [] := rfl
/-! ### Cutting -/
theorem cut1 (c : UInt8) : ∀ {a b r q : List UInt8}, c ∉ a → c ∉ b → a ++ c :: r = b ++ c :: q → a = b ∧ r = q
  | [], [], r, q, _, _, h => by simpa using h
  | [], y :: b, r, q, _, hb, h => by
    simp only [List.nil_append, List.cons_append, List.cons.injEq] at h
    exact absurd (by rw [h.1]; simp) hb
  | x :: a, [], r, q, ha, _, h => by
    simp only [List.nil_append, List.cons_append, List.cons.injEq] at h
    exact absurd (by rw [h.1]; simp) ha
  | x :: a, y :: b, r, q, ha, hb, h => by
    simp only [List.cons_append, List.cons.injEq] at h
    obtain ⟨e, h⟩ := h
    obtain ⟨e1, e2⟩ := cut1 c (fun hc => ha (by simp [hc])) (fun hc => hb (by simp [hc])) h
    exact ⟨by rw [e, e1], e2⟩
/-- lines, one behind the other -/
def unl (ls : List (List UInt8)) : List UInt8 := ls.flatMap fun l => l ++ [10]
theorem unl_app (a b : List (List UInt8)) : unl (a ++ b) = unl a ++ unl b := by simp [unl]
theorem unl_cons (a : List UInt8) (b : List (List UInt8)) : unl (a :: b) = a ++ 10 :: unl b := by simp [unl]
theorem unl_one (a : List UInt8) : unl [a] = a ++ [10] := by simp [unl]
theorem unl_nil : unl [] = [] := rfl
theorem unl_inj : ∀ {A B : List (List UInt8)}, (∀ l ∈ A, (10 : UInt8) ∉ l) → (∀ l ∈ B, (10 : UInt8) ∉ l) → unl A = unl B → A = B
  | [], [], _, _, _ => rfl
  | [], b :: B, _, _, h => by rw [unl_cons, unl_nil] at h; simp at h
  | a :: A, [], _, _, h => by rw [unl_cons, unl_nil] at h; simp at h
  | a :: A, b :: B, hA, hB, h => by
    rw [unl_cons, unl_cons] at h
    obtain ⟨e1, e2⟩ := cut1 10 (hA a (by simp)) (hB b (by simp)) h
    rw [e1, unl_inj (fun l hl => hA l (by simp [hl])) (fun l hl => hB l (by simp [hl])) e2]
theorem part {α : Type} (P : α → Bool) : ∀ {A A' B B' : List α}, (∀ l ∈ A, P l = true) → (∀ l ∈ A', P l = true) → (∀ l, B.head? = some l → P l = false) → (∀ l, B'.head? = some l → P l = false) → A ++ B = A' ++ B' → A = A' ∧ B = B'
  | [], [], B, B', _, _, _, _, h => ⟨rfl, h⟩
  | [], a' :: A', B, B', _, h', hB, _, h => by
    have h1 := hB a' (by rw [List.nil_append] at h; rw [h]; rfl)
    rw [h' a' (by simp)] at h1
    cases h1
  | a :: A, [], B, B', h', _, _, hB, h => by
    have h1 := hB a (by rw [List.nil_append] at h; rw [← h]; rfl)
    rw [h' a (by simp)] at h1
    cases h1
  | a :: A, a' :: A', B, B', hA, hA', hB, hB', h => by
    simp only [List.cons_append, List.cons.injEq] at h
    obtain ⟨e1, e2⟩ := part P (fun l hl => hA l (by simp [hl])) (fun l hl => hA' l (by simp [hl])) hB hB' h.2
    exact ⟨by rw [h.1, e1], e2⟩
theorem map_on {α β : Type} {f g : α → β} : ∀ {xs ys : List α}, (∀ a ∈ xs, ∀ b ∈ ys, f a = g b → a = b) → xs.map f = ys.map g → xs = ys
  | [], [], _, _ => rfl
  | [], y :: ys, _, h => by simp at h
  | x :: xs, [], _, h => by simp at h
  | x :: xs, y :: ys, h, e => by
    simp only [List.map_cons, List.cons.injEq] at e
    rw [h x (by simp) y (by simp) e.1, map_on (fun a ha b hb => h a (by simp [ha]) b (by simp [hb])) e.2]
/-! ### Numbers -/
theorem dec_dig (u : Nat) : ∀ c ∈ Lib.decDigits u, 48 ≤ c.toNat ∧ c.toNat ≤ 57 := by
  induction u using Nat.strongRecOn with
  | ind u ih =>
    intro c hc
    rw [Lib.decDigits] at hc
    split at hc
    · rw [List.mem_singleton] at hc
      rw [hc, UInt8.toNat_ofNat']
      omega
    · rcases List.mem_append.1 hc with hc | hc
      · exact ih (u / 10) (by omega) c hc
      · rw [List.mem_singleton] at hc
        rw [hc, UInt8.toNat_ofNat']
        omega
theorem dec_val (u : Nat) : (Lib.decDigits u).foldl (fun n c => 10 * n + (c.toNat - 48)) 0 = u := by
  induction u using Nat.strongRecOn with
  | ind u ih =>
    rw [Lib.decDigits]
    split
    · simp only [List.foldl_cons, List.foldl_nil, UInt8.toNat_ofNat']
      omega
    · rw [List.foldl_append, ih (u / 10) (by omega)]
      simp only [List.foldl_cons, List.foldl_nil, UInt8.toNat_ofNat']
      omega
theorem dec_inj {a b : Nat} (h : Lib.decDigits a = Lib.decDigits b) : a = b := by rw [← dec_val a, ← dec_val b, h]
theorem dec_not {u : Nat} {c : UInt8} (h : c.toNat < 48 ∨ 57 < c.toNat) : c ∉ Lib.decDigits u := fun hc => by
  have := dec_dig u c hc
  omega
theorem itoa_not {n : Int} {c : UInt8} (h : c.toNat < 45 ∨ 57 < c.toNat) : c ∉ Lib.itoa n := by
  unfold Lib.itoa
  split
  · intro hc
    rcases List.mem_cons.1 hc with rfl | hc
    · revert h; decide
    · exact dec_not (by omega) hc
  · exact dec_not (by omega)
theorem itoa_inj {a b : Int} (h : Lib.itoa a = Lib.itoa b) : a = b := by
  unfold Lib.itoa at h
  split at h <;> split at h
  · rw [List.cons.injEq] at h
    have := dec_inj h.2
    omega
  · exact absurd (show (45 : UInt8) ∈ Lib.decDigits b.toNat by rw [← h]; simp) (dec_not (by decide))
  · exact absurd (show (45 : UInt8) ∈ Lib.decDigits a.toNat by rw [h]; simp) (dec_not (by decide))
  · have := dec_inj h
    omega
theorem sv_inj {a b : Int} (ha : 0 ≤ a ∧ a < 4294967296) (hb : 0 ≤ b ∧ b < 4294967296) (h : sv a = sv b) : a = b := by
  unfold sv at h
  split at h <;> split at h <;> omega
/-- a place's name -/
def natU (p : Int) : List UInt8 := 97 :: 116 :: Lib.decDigits p.toNat
theorem ubl_nat (p : Int) : ubl (natS p) = natU p := by
  unfold natS
  rw [ubl_app]
  rfl
theorem ubl_dec (n : Nat) : ubl (decT n) = Lib.decDigits n := rfl
theorem ubl_sgn (x : Int) : ubl (sgnT x) = Lib.itoa (sv x) := rfl
theorem natU_inj {a b : Int} (ha : 0 ≤ a) (hb : 0 ≤ b) (h : natU a = natU b) : a = b := by
  unfold natU at h
  simp only [List.cons.injEq, true_and] at h
  have := dec_inj h
  omega
theorem natU_not {p : Int} {c : UInt8} (h : c.toNat < 48 ∨ 57 < c.toNat) (h1 : c ≠ 97) (h2 : c ≠ 116) : c ∉ natU p := by
  unfold natU
  intro hc
  rcases List.mem_cons.1 hc with hc | hc
  · exact h1 hc
  · rcases List.mem_cons.1 hc with hc | hc
    · exact h2 hc
    · exact dec_not h hc
/-! ### Instructions -/
theorem rows_word : ∀ r ∈ opRows, (32 : UInt8) ∉ r.w ∧ (10 : UInt8) ∉ r.w ∧ (r.width = 0 → r.most = 0) := by decide
theorem rows_apart : (opRows.map (·.w)).Nodup := by decide
theorem opRow_mem {k : Nat} (h : k < 60) : opRow k ∈ opRows := by
  unfold opRow
  rw [List.getD_eq_getElem?_getD, List.getElem?_eq_getElem (by rw [opRows_len]; exact h)]
  simp
theorem opR_row {op : Int} (h : opOk op = true) : opR op = opRow op.toNat ∧ op.toNat < 60 ∧ 0 ≤ op := by
  unfold opOk at h
  have h := of_decide_eq_true h
  unfold opR
  rw [if_pos h]
  exact ⟨rfl, by omega, by omega⟩
theorem word_inj {a b : Int} (ha : opOk a = true) (hb : opOk b = true) (h : (opR a).w = (opR b).w) : a = b := by
  obtain ⟨e1, l1, p1⟩ := opR_row ha
  obtain ⟨e2, l2, p2⟩ := opR_row hb
  rw [e1, e2] at h
  have h3 : (opRows.map (·.w))[a.toNat]? = (opRows.map (·.w))[b.toNat]? := by
    unfold opRow at h
    rw [List.getElem?_map, List.getElem?_map, List.getElem?_eq_getElem (by rw [opRows_len]; exact l1), List.getElem?_eq_getElem (by rw [opRows_len]; exact l2)]
    rw [List.getD_eq_getElem?_getD, List.getD_eq_getElem?_getD, List.getElem?_eq_getElem (by rw [opRows_len]; exact l1), List.getElem?_eq_getElem (by rw [opRows_len]; exact l2)] at h
    simpa using h
  have := (List.getElem?_inj (by rw [List.length_map, opRows_len]; exact l1) rows_apart).1 h3
  omega
/-- an instruction's line -/
def insL (n : Nat) (t : Int × Int) : List UInt8 := 9 :: ((opR t.1).w ++ (if 0 < (opR t.1).width then 32 :: (if stB n t = true then natU t.2 else Lib.itoa (sv t.2)) else []))
/-- an instruction that may be -/
def InsOk (t : Int × Int) : Prop := opChk t.1 t.2 = 0 ∧ 0 ≤ t.2 ∧ t.2 < 4294967296
theorem InsOk.op {t : Int × Int} (h : InsOk t) : opOk t.1 = true ∧ t.2 ≤ ((opR t.1).most : Int) := by
  have h1 := h.1
  unfold opChk at h1
  split at h1
  · rename_i h2
    split at h1
    · cases h1
    · exact ⟨h2, by omega⟩
  · cases h1
theorem InsOk.row {t : Int × Int} (h : InsOk t) : (32 : UInt8) ∉ (opR t.1).w ∧ (10 : UInt8) ∉ (opR t.1).w ∧ ((opR t.1).width = 0 → (opR t.1).most = 0) := by
  obtain ⟨e, l, _⟩ := opR_row h.op.1
  rw [e]
  exact rows_word _ (opRow_mem l)
theorem opnd_inj {n : Nat} {s t : Int × Int} (hs : InsOk s) (ht : InsOk t) (h : (if stB n s = true then natU s.2 else Lib.itoa (sv s.2)) = (if stB n t = true then natU t.2 else Lib.itoa (sv t.2))) : s.2 = t.2 := by
  split at h <;> split at h
  · exact natU_inj hs.2.1 ht.2.1 h
  · exact absurd (show (97 : UInt8) ∈ Lib.itoa (sv t.2) by rw [← h]; simp [natU]) (itoa_not (by decide))
  · exact absurd (show (97 : UInt8) ∈ Lib.itoa (sv s.2) by rw [h]; simp [natU]) (itoa_not (by decide))
  · exact sv_inj hs.2 ht.2 (itoa_inj h)
theorem insL_inj {n : Nat} {s t : Int × Int} (hs : InsOk s) (ht : InsOk t) (h : insL n s = insL n t) : s = t := by
  obtain ⟨os, ms⟩ := hs.op
  obtain ⟨ot, mt⟩ := ht.op
  obtain ⟨bs, _, zs⟩ := hs.row
  obtain ⟨bt, _, zt⟩ := ht.row
  have fin : (opR s.1).w = (opR t.1).w → s.2 = t.2 → s = t := fun h1 h2 => Prod.ext (word_inj os ot h1) h2
  unfold insL at h
  rw [List.cons.injEq] at h
  have h := h.2
  by_cases ws : 0 < (opR s.1).width <;> by_cases wt : 0 < (opR t.1).width
  · rw [if_pos ws, if_pos wt] at h
    obtain ⟨e1, e2⟩ := cut1 32 bs bt h
    exact fin e1 (opnd_inj hs ht e2)
  · rw [if_pos ws, if_neg wt, List.append_nil] at h
    exact absurd (by rw [← h]; simp) bt
  · rw [if_neg ws, if_pos wt, List.append_nil] at h
    exact absurd (by rw [h]; simp) bs
  · rw [if_neg ws, if_neg wt, List.append_nil, List.append_nil] at h
    have z1 := zs (by omega)
    have z2 := zt (by omega)
    rw [z1] at ms
    rw [z2] at mt
    exact fin h (by have := hs.2.1; have := ht.2.1; omega)
theorem insL_nl {n : Nat} {t : Int × Int} (h : InsOk t) : (10 : UInt8) ∉ insL n t := by
  unfold insL
  intro hc
  rcases List.mem_cons.1 hc with hc | hc
  · revert hc; decide
  · rcases List.mem_append.1 hc with hc | hc
    · exact h.row.2.1 hc
    · split at hc
      · rcases List.mem_cons.1 hc with hc | hc
        · revert hc; decide
        · split at hc
          · exact natU_not (by decide) (by decide) (by decide) hc
          · exact itoa_not (by decide) hc
      · cases hc
/-! ### Literals -/
theorem nibN_inj {a b : Int} (ha : 0 ≤ a ∧ a < 16) (hb : 0 ≤ b ∧ b < 16) (h : nibN a = nibN b) : a = b := by
  unfold nibN at h
  split at h <;> split at h <;> omega
theorem showB_ways (c : Int) (h : isByte c) : (∃ k, showB c = [92, k] ∧ k ≠ 120 ∧ ((c = 10 ∧ k = 110) ∨ (c = 9 ∧ k = 116) ∨ (c = 13 ∧ k = 114) ∨ (c = 0 ∧ k = 48) ∨ (c = 34 ∧ k = 34) ∨ (c = 92 ∧ k = 92))) ∨ (showB c = [c] ∧ c ≠ 92 ∧ c ≠ 34 ∧ 32 ≤ c ∧ c ≤ 126) ∨ showB c = [92, 120, nibN (c / 16), nibN (c % 16)] := by
  unfold showB
  repeat' split
  all_goals first
    | exact .inl ⟨_, rfl, by omega, by omega⟩
    | exact .inr (.inl ⟨rfl, by omega, by omega, by omega, by omega⟩)
    | exact .inr (.inr rfl)
theorem showB_pre {c d : Int} {r q : List Int} (hc : isByte c) (hd : isByte d) (h : showB c ++ r = showB d ++ q) : c = d ∧ r = q := by
  rcases showB_ways c hc with ⟨k, e1, k1, w1⟩ | ⟨e1, n1, _, _⟩ | e1 <;> rcases showB_ways d hd with ⟨m, e2, k2, w2⟩ | ⟨e2, n2, _, _⟩ | e2 <;> rw [e1, e2] at h <;> simp only [List.cons_append, List.nil_append, List.cons.injEq, true_and] at h
  · exact ⟨by omega, h.2⟩
  · exact absurd h.1.symm n2
  · exact absurd h.1 k1
  · exact absurd h.1 n1
  · exact h
  · exact absurd h.1 n1
  · exact absurd h.1.symm k2
  · exact absurd h.1.symm n2
  · have a1 := hc.1
    have a2 := hc.2
    have b1 := hd.1
    have b2 := hd.2
    have x1 := nibN_inj (by omega) (by omega) h.1
    have x2 := nibN_inj (by omega) (by omega) h.2.1
    exact ⟨by omega, h.2.2⟩
theorem showB_34 {c : Int} {r q : List Int} (hc : isByte c) (h : showB c ++ r = 34 :: q) : False := by
  rcases showB_ways c hc with ⟨k, e1, _⟩ | ⟨e1, _, n1, _⟩ | e1 <;> rw [e1] at h <;> simp only [List.cons_append, List.nil_append, List.cons.injEq] at h
  · exact absurd h.1 (by decide)
  · exact n1 h.1
  · exact absurd h.1 (by decide)
theorem showF_inj : ∀ {a b : List Int} {r q : List Int}, (∀ c ∈ a, isByte c) → (∀ c ∈ b, isByte c) → a.flatMap showB ++ 34 :: r = b.flatMap showB ++ 34 :: q → a = b ∧ r = q
  | [], [], r, q, _, _, h => by simpa using h
  | [], d :: b, r, q, _, hb, h => by
    rw [List.flatMap_cons, List.append_assoc] at h
    exact (showB_34 (hb d (by simp)) h.symm).elim
  | c :: a, [], r, q, ha, _, h => by
    rw [List.flatMap_cons, List.append_assoc] at h
    exact (showB_34 (ha c (by simp)) h).elim
  | c :: a, d :: b, r, q, ha, hb, h => by
    rw [List.flatMap_cons, List.append_assoc, List.flatMap_cons, List.append_assoc] at h
    obtain ⟨e1, e2⟩ := showB_pre (ha c (by simp)) (hb d (by simp)) h
    obtain ⟨e3, e4⟩ := showF_inj (fun x hx => ha x (by simp [hx])) (fun x hx => hb x (by simp [hx])) e2
    exact ⟨by rw [e1, e3], e4⟩
/-- a literal's bytes -/
def litL (l : List Int) : List UInt8 := (showL l).map fun n => UInt8.ofNat n.toNat
theorem ubl_show (l : List Int) : ubl (showT l) = litL l := rfl
theorem u8_inj {a b : Int} (ha : isByte a) (hb : isByte b) (h : UInt8.ofNat a.toNat = UInt8.ofNat b.toNat) : a = b := by
  have h1 := congrArg UInt8.toNat h
  rw [UInt8.toNat_ofNat', UInt8.toNat_ofNat'] at h1
  have := ha.1
  have := ha.2
  have := hb.1
  have := hb.2
  omega
theorem litL_inj {a b : List Int} (ha : ∀ c ∈ a, isByte c) (hb : ∀ c ∈ b, isByte c) (h : litL a = litL b) : a = b := by
  have h1 : showL a = showL b := map_on (fun c hc d hd e => u8_inj (showL_byte a ha c hc) (showL_byte b hb d hd) e) h
  unfold showL showM at h1
  simp only [List.cons_append, List.cons.injEq, true_and] at h1
  exact (showF_inj ha hb h1).1
theorem nibN_print {x : Int} (h : 0 ≤ x ∧ x < 16) : 32 ≤ nibN x ∧ nibN x ≤ 126 := by unfold nibN; split <;> omega
theorem litL_nl {l : List Int} (h : ∀ c ∈ l, isByte c) : (10 : UInt8) ∉ litL l := by
  intro hc
  obtain ⟨n, hn, e⟩ := List.mem_map.1 hc
  have hb := showL_byte l h n hn
  have h10 : n = 10 := u8_inj hb (by unfold isByte; omega) (by rw [e]; rfl)
  rw [h10] at hn
  unfold showL showM at hn
  simp only [List.cons_append, List.mem_cons, List.mem_append, List.mem_flatMap, List.not_mem_nil, or_false] at hn
  rcases hn with hn | ⟨c, hc, hn⟩ | hn
  · omega
  · have a1 := (h c hc).1
    have a2 := (h c hc).2
    rcases showB_ways c (h c hc) with ⟨k, e1, _, w1⟩ | ⟨e1, _, _, n1, _⟩ | e1 <;> rw [e1] at hn <;> simp only [List.mem_cons, List.not_mem_nil, or_false] at hn
    · omega
    · omega
    · have x1 := nibN_print (x := c / 16) (by omega)
      have x2 := nibN_print (x := c % 16) (by omega)
      omega
  · omega
end Go.Proofs.YtikbegmodacopaaGreatDoor
