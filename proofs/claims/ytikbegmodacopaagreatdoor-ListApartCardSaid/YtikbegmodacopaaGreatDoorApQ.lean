/-
  The text of an image, line by line; two images of one text are one image: plain law.
-/
import Derived.Test.YtikbegmodacopaaGreatDoorApP
namespace Go.Proofs.YtikbegmodacopaaGreatDoor
open Go.RowKit Go.PlainAid
set_option linter.unusedSimpArgs false
set_option linter.unusedVariables false
set_option maxRecDepth 100000
theorem ubl_ne {a : ByteArray} (h : ubl a ≠ []) : a ≠ e0B := fun e => h (by rw [e]; rfl)
/-! ### The code -/
theorem cat_lab : ∀ M : List LabV, ubl (cat (M.map labLn)) = unl (M.map fun l => ubl l.name ++ [58])
  | [] => rfl
  | l :: M => by
    rw [List.map_cons, List.map_cons, unl_cons, ← cat_lab M]
    show ubl (labLn l ++ cat (M.map labLn)) = _
    rw [ubl_app]
    show ubl (l.name ++ ⟨#[58, 10]⟩) ++ _ = _
    rw [ubl_app, show ubl ⟨#[58, 10]⟩ = [58, 10] from rfl]
    simp
/-- the lines of the labels of a place -/
def labs (x : ImgV) (i : Nat) : List (List UInt8) := (((plc x).map labP).filter (labAt 1 i)).map fun l => ubl l.name ++ [58]
theorem labs_mem {x : ImgV} {i : Nat} {l : List UInt8} (h : l ∈ labs x i) : ∃ p, l = natU p ++ [58] := by
  unfold labs at h
  obtain ⟨q, hq, rfl⟩ := List.mem_map.1 h
  obtain ⟨p, hp, rfl⟩ := List.mem_map.1 (List.mem_filter.1 hq).1
  exact ⟨p, by show ubl (natS p) ++ _ = _; rw [ubl_nat]⟩
def codeLs (x : ImgV) : Nat → Nat → List (List UInt8)
  | 0, i => labs x i
  | k + 1, i => labs x i ++ ((match x.code[i]? with
    | none => []
    | some t => [insL x.code.length t]) ++ codeLs x k (i + 1))
theorem fix_1 {x : ImgV} {i : Nat} {t : Int × Int} (h : x.code[i]? = some t) : fixT (fixF x x.code.length) 1 i = if stB x.code.length t = true then natS t.2 else e0B := by
  obtain ⟨hi, _⟩ := List.getElem?_eq_some_iff.1 h
  unfold fixT
  cases hf : (fixF x x.code.length).find? (fixAtB 1 i) with
  | some f =>
    have hm := List.mem_of_find?_eq_some hf
    have hp := List.find?_some hf
    unfold fixF at hm
    obtain ⟨k, hk, hm⟩ := List.mem_flatMap.1 hm
    cases ht : x.code[k]? with
    | none => rw [ht] at hm; simp at hm
    | some u =>
      rw [ht] at hm
      dsimp only at hm
      split at hm
      · rename_i hs
        obtain rfl := List.mem_singleton.1 hm
        unfold fixAtB at hp
        rw [Bool.and_eq_true, decide_eq_true_eq, decide_eq_true_eq] at hp
        obtain rfl : k = i := by have := hp.2; dsimp only at this; omega
        rw [h] at ht
        obtain rfl := Option.some.inj ht
        rw [if_pos hs]
        show fixTx _ = _
        unfold fixTx
        rw [if_pos rfl]
      · cases hm
  | none =>
    have hn := List.find?_eq_none.1 hf
    show e0B = _
    by_cases hs : stB x.code.length t = true
    · have := hn ⟨1, (i : Int), natS t.2, 0⟩ (List.mem_flatMap.2 ⟨i, List.mem_range.2 hi, by rw [h]; dsimp only; rw [if_pos hs]; simp⟩)
      exact absurd (by unfold fixAtB; simp) this
    · rw [if_neg hs]
theorem codP_1 (n : Nat) (t : Int × Int) : (codP n t).1 = t.1 := by unfold codP; split <;> rfl
theorem natS_ne (p : Int) : natS p ≠ e0B := ubl_ne (by rw [ubl_nat]; simp [natU])
theorem ins_ubl {x : ImgV} {i : Nat} {t : Int × Int} (h : x.code[i]? = some t) : ubl (insT (objO x) i) = unl (labs x i) ++ unl [insL x.code.length t] := by
  unfold insT
  rw [ubl_app]
  have e1 : ubl (atL (objO x).labels 1 i) = unl (labs x i) := cat_lab _
  rw [e1]
  congr 1
  have e2 : (objO x).code[i]? = some (codP x.code.length t) := by
    show (x.code.map _)[i]? = _
    rw [List.getElem?_map, h]
    rfl
  rw [e2]
  dsimp only
  rw [codP_1, show (objO x).fixes = fixF x x.code.length from rfl, fix_1 h]
  have e3 : (if (if stB x.code.length t = true then natS t.2 else e0B) = e0B then sgnT (codP x.code.length t).2 else if stB x.code.length t = true then natS t.2 else e0B) = if stB x.code.length t = true then natS t.2 else sgnT t.2 := by
    by_cases hs : stB x.code.length t = true
    · rw [if_pos hs, if_neg (natS_ne _), if_pos hs]
    · rw [if_neg hs, if_pos rfl, if_neg hs]
      unfold codP
      rw [if_neg hs]
  rw [e3, unl_one]
  unfold insL
  simp only [ubl_app]
  by_cases hw : 0 < (opR t.1).width
  · rw [if_pos hw, if_pos hw, ubl_app]
    by_cases hs : stB x.code.length t = true
    · rw [if_pos hs, if_pos hs, ubl_nat]
      simp [ubl]
    · rw [if_neg hs, if_neg hs, ubl_sgn]
      simp [ubl]
  · rw [if_neg hw, if_neg hw]
    simp [ubl, e0B]
theorem codeLs_s {x : ImgV} {k i : Nat} {t : Int × Int} (h : x.code[i]? = some t) : codeLs x (k + 1) i = labs x i ++ ([insL x.code.length t] ++ codeLs x k (i + 1)) := by
  rw [codeLs, h]
theorem code_ubl (x : ImgV) : ∀ k i, i + k ≤ x.code.length → ubl (codeR (objO x) k i) = unl (codeLs x k i)
  | 0, i, _ => cat_lab _
  | k + 1, i, h => by
    have hi : x.code[i]? = some x.code[i] := List.getElem?_eq_getElem (by omega)
    show ubl (insT (objO x) i ++ codeR (objO x) k (i + 1)) = _
    rw [ubl_app, ins_ubl hi, code_ubl x k (i + 1) (by omega)]
    rw [codeLs_s hi, unl_app, unl_app, List.append_assoc]
/-! ### The data -/
theorem no2 (x : ImgV) (sec : Int) (h : sec ≠ 1) (at_ : Int) : atL (objO x).labels sec at_ = e0B := by
  unfold atL
  rw [List.filter_eq_nil_iff.2]
  · rfl
  · intro l hl
    obtain ⟨p, _, rfl⟩ := List.mem_map.1 hl
    unfold labAt labP
    rw [decide_eq_false (fun e => h e.symm)]
    simp
theorem noF (x : ImgV) (at_ : Int) : fixT (objO x).fixes 2 at_ = e0B := by
  unfold fixT
  rw [List.find?_eq_none.2]
  intro f hf
  obtain ⟨k, t, _, _, rfl⟩ := fixF_mem (x := x) hf
  unfold fixAtB
  rw [decide_eq_false (by dsimp only; omega)]
  simp
theorem stopG_ge (y : ObjV) : ∀ f k, k ≤ stopG y f k
  | 0, k => Nat.le_refl _
  | f + 1, k => by
    unfold stopG
    split
    · exact Nat.le_trans (Nat.le_succ k) (stopG_ge y f (k + 1))
    · exact Nat.le_refl _
def byteL (l : List Int) : List UInt8 := [9, 98, 121, 116, 101, 115, 32] ++ litL l
theorem data_ubl (x : ImgV) : ∀ k i, x.data.length ≤ i + k → ∃ R : List (List Int), R.flatten = x.data.drop i ∧ ubl (dataR (objO x) k i) = unl (R.map byteL)
  | 0, i, h => ⟨[], by rw [List.drop_eq_nil_of_le (by omega)]; rfl, by
      show ubl (atL (objO x).labels 2 _) = _
      rw [no2 x 2 (by decide)]
      rfl⟩
  | k + 1, i, h => by
    unfold dataR
    by_cases hl : (objO x).data.length ≤ i
    · rw [if_pos hl, no2 x 2 (by decide)]
      exact ⟨[], by rw [List.drop_eq_nil_of_le (show x.data.length ≤ i from hl)]; rfl, rfl⟩
    · rw [if_neg hl, no2 x 2 (by decide), noF, if_pos rfl]
      have hs : i + 1 ≤ stopK (objO x) i := stopG_ge _ _ _
      obtain ⟨R, hR, e⟩ := data_ubl x k (stopK (objO x) i) (by omega)
      refine ⟨((x.data.drop i).take (stopK (objO x) i - i)) :: R, ?_, ?_⟩
      · rw [List.flatten_cons, hR]
        have h2 : x.data.drop (stopK (objO x) i) = (x.data.drop i).drop (stopK (objO x) i - i) := by
          rw [List.drop_drop]
          congr 1
          omega
        rw [h2, List.take_append_drop]
      · rw [List.map_cons, unl_cons, ← e]
        simp only [ubl_app]
        unfold byteL
        rw [← ubl_show]
        simp [ubl, e0B]
        rfl
def dataLs (R : List (List Int)) : List (List UInt8) := if R = [] then [] else [100, 97, 116, 97] :: R.map byteL
theorem hasL_no (x : ImgV) (sec : Int) (h : sec ≠ 1) : hasL (objO x).labels sec = false := by
  rw [Bool.eq_false_iff]
  intro hc
  obtain ⟨l, hl, e⟩ := List.any_eq_true.1 hc
  obtain ⟨p, _, rfl⟩ := List.mem_map.1 hl
  have e := of_decide_eq_true e
  exact h e.symm
theorem dataT_ubl (x : ImgV) : ∃ R : List (List Int), R.flatten = x.data ∧ ubl (dataT (objO x)) = unl (dataLs R) := by
  unfold dataT
  by_cases h : x.data.length = 0
  · rw [if_pos ⟨h, hasL_no x 2 (by decide)⟩]
    exact ⟨[], by rw [List.length_eq_zero_iff.1 h]; rfl, rfl⟩
  · rw [if_neg (fun hc => h hc.1)]
    obtain ⟨R, hR, e⟩ := data_ubl x x.data.length 0 (by omega)
    refine ⟨R, by rw [hR]; rfl, ?_⟩
    have hne : R ≠ [] := by
      rintro rfl
      rw [List.drop_zero] at hR
      exact h (by rw [← hR]; rfl)
    rw [ubl_app]
    show _ ++ ubl (dataR (objO x) x.data.length 0) = _
    rw [e]
    unfold dataLs
    rw [if_neg hne, unl_cons]
    rfl
/-! ### The rest -/
def zeroLs (z : Int) : List (List UInt8) := if z = 0 then [] else [[122, 101, 114, 111], [9, 115, 112, 97, 99, 101, 32] ++ Lib.decDigits z.toNat]
theorem zeroR_no (z : Int) (at_ : Int) : ∀ L : List LabV, (∀ l ∈ L, l.sec ≠ 3) → zeroR z L at_ = if at_ < z then spaceT (z - at_) else e0B
  | [], _ => rfl
  | l :: L, h => by
    unfold zeroR
    rw [if_neg (h l (by simp)), zeroR_no z at_ L fun m hm => h m (by simp [hm])]
theorem zeroT_ubl {x : ImgV} (h0 : 0 ≤ x.zero) : ubl (zeroT (objO x)) = unl (zeroLs x.zero) := by
  unfold zeroT zeroLs
  by_cases h : x.zero = 0
  · rw [if_pos ⟨h, hasL_no x 3 (by decide)⟩, if_pos h]
    rfl
  · rw [if_neg (fun hc => h hc.1), if_neg h]
    rw [zeroR_no _ _ _ (by
      intro l hl
      obtain ⟨p, _, rfl⟩ := List.mem_map.1 hl
      show (1 : Int) ≠ 3
      decide)]
    rw [if_pos (show (0 : Int) < (objO x).zero by show 0 < x.zero; omega), show (objO x).zero - 0 = x.zero from Int.sub_zero _]
    unfold spaceT
    simp only [ubl_app, ubl_dec, unl_cons, unl_nil]
    simp [ubl]
def stackL (n : Int) : List UInt8 := [115, 116, 97, 99, 107, 32] ++ Lib.decDigits n.toNat
theorem stackT_ubl {x : ImgV} (h : x.stack ≠ 0) : ubl (stackT (objO x)) = unl [stackL x.stack] := by
  unfold stackT
  rw [if_neg (show ¬ (objO x).stack = 0 from h)]
  simp only [ubl_app, ubl_dec, unl_one, stackL]
  rfl
theorem open_no (x : ImgV) : cat ((objO x).labels.map openT) = e0B := by
  show cat (((plc x).map labP).map openT) = e0B
  induction plc x with
  | nil => rfl
  | cons p l ih =>
    rw [List.map_cons, List.map_cons]
    show openT (labP p) ++ cat ((l.map labP).map openT) = e0B
    rw [ih]
    rfl
def targL (p : Int) : List UInt8 := [116, 97, 114, 103, 101, 116, 32] ++ natU p
theorem targ_ubl : ∀ l : List Int, ubl (cat ((l.map natS).map targT)) = unl (l.map targL)
  | [] => rfl
  | p :: l => by
    rw [List.map_cons, List.map_cons, List.map_cons, unl_cons, ← targ_ubl l]
    show ubl (targT (natS p) ++ cat ((l.map natS).map targT)) = _
    unfold targT targL
    simp only [ubl_app, ubl_nat]
    simp [ubl]
def entL (t : ExpV) : List UInt8 := [101, 110, 116, 114, 121, 32] ++ (litL (numsB t.name) ++ ([44] ++ (32 :: natU t.at_)))
theorem ent_ubl : ∀ l : List ExpV, ubl (cat ((l.map entP).map entT)) = unl (l.map entL)
  | [] => rfl
  | t :: l => by
    rw [List.map_cons, List.map_cons, List.map_cons, unl_cons, ← ent_ubl l]
    show ubl (entT (entP t) ++ cat ((l.map entP).map entT)) = _
    unfold entT entL entP
    simp only [ubl_app, ubl_nat, ubl_show]
    simp [ubl]
/-- a text's lines -/
def txtLs (x : ImgV) (R : List (List Int)) : List (List UInt8) := [99, 111, 100, 101] :: (codeLs x x.code.length 0 ++ (dataLs R ++ (zeroLs x.zero ++ (stackL x.stack :: (x.jumps.map targL ++ x.names.map entL)))))
theorem body_ubl {x : ImgV} (h0 : 0 ≤ x.zero) (hs : x.stack ≠ 0) : ∃ R : List (List Int), R.flatten = x.data ∧ ubl (bodyT (objO x)) = unl (txtLs x R) := by
  obtain ⟨R, hR, e⟩ := dataT_ubl x
  refine ⟨R, hR, ?_⟩
  unfold bodyT codeT restT txtLs
  rw [unl_cons, unl_app, unl_app, unl_app]
  rw [show stackL x.stack :: (x.jumps.map targL ++ x.names.map entL) = [stackL x.stack] ++ (x.jumps.map targL ++ x.names.map entL) from rfl, unl_app, unl_app]
  rw [open_no, ← stackT_ubl hs, ← zeroT_ubl h0, ← e, ← targ_ubl, ← ent_ubl]
  rw [← code_ubl x x.code.length 0 (by omega)]
  simp only [ubl_app]
  rw [show (objO x).code.length = x.code.length from List.length_map ..]
  rw [show (objO x).targets = x.jumps.map natS from rfl, show (objO x).entries = x.names.map entP from rfl]
  simp [ubl, e0B, -List.map_map]
end Go.Proofs.YtikbegmodacopaaGreatDoor
