/-
  The text of an object: plain law. The document tells it place by place; the printer takes the labels and fixes that are left, one after the other.
-/
import Derived.Test.YtnkfjileaonemaaGreatDoorAChk
import Derived.Test.YtnkfjileaonemaaGreatDoorFu
namespace Go.Proofs.YtnkfjileaonemaaGreatDoor
open Go.RowKit Go.PlainAid
set_option linter.unusedSimpArgs false
set_option linter.unusedVariables false
theorem ba_assoc (a b c : ByteArray) : a ++ b ++ c = a ++ (b ++ c) := by apply ByteArray.ext; simp
def e0B : ByteArray := ⟨#[]⟩
theorem ba_nil (a : ByteArray) : a ++ e0B = a := by apply ByteArray.ext; simp [e0B]
theorem nil_ba (a : ByteArray) : e0B ++ a = a := by apply ByteArray.ext; simp [e0B]
def cat : List ByteArray → ByteArray
  | [] => e0B
  | a :: l => a ++ cat l
theorem cat_app (a b : List ByteArray) : cat (a ++ b) = cat a ++ cat b := by
  induction a with
  | nil => rw [List.nil_append]; exact (nil_ba _).symm
  | cons x a ih => rw [List.cons_append]; show x ++ cat (a ++ b) = (x ++ cat a) ++ cat b; rw [ih, ba_assoc]
theorem cat_snoc (a : List ByteArray) (x : ByteArray) : cat (a ++ [x]) = cat a ++ x := by rw [cat_app]; show cat a ++ (x ++ e0B) = _; rw [ba_nil]
theorem ba_size (a b : ByteArray) : (a ++ b).size = a.size + b.size := ByteArray.size_append
theorem ba_ne {a : ByteArray} (h : a ≠ e0B) : 0 < a.size := by
  rcases Nat.eq_zero_or_pos a.size with h0 | h0
  · exact absurd (by
      apply ByteArray.ext
      have : a.data.size = 0 := h0
      rw [Array.eq_empty_of_size_eq_zero this]; rfl) h
  · exact h0
/-- a label's line -/
def labLn (l : LabV) : ByteArray := l.name ++ ⟨#[58, 10]⟩
def labAt (sec at_ : Int) (l : LabV) : Bool := decide (l.sec = sec) && decide (l.at_ = at_)
/-- the lines of the labels of a place, of a list of labels -/
def atL (L : List LabV) (sec at_ : Int) : ByteArray := cat ((L.filter (labAt sec at_)).map labLn)
/-- a fix's text -/
def fixTx (f : FixV) : ByteArray := if f.add = 0 then f.name else f.name ++ ⟨#[43]⟩ ++ decT f.add.toNat
def fixAtB (sec at_ : Int) (f : FixV) : Bool := decide (f.sec = sec) && decide (f.at_ = at_)
def fixT (F : List FixV) (sec at_ : Int) : ByteArray := match F.find? (fixAtB sec at_) with
  | some f => fixTx f
  | none => e0B
/-- a label is before a place -/
def befL (sec at_ : Int) (l : LabV) : Prop := l.sec < sec ∨ (l.sec = sec ∧ l.at_ < at_)
def befF (sec at_ : Int) (f : FixV) : Prop := f.sec < sec ∨ (f.sec = sec ∧ f.at_ < at_)
def leL (a b : LabV) : Prop := a.sec < b.sec ∨ (a.sec = b.sec ∧ a.at_ ≤ b.at_)
def ltF (a b : FixV) : Prop := a.sec < b.sec ∨ (a.sec = b.sec ∧ a.at_ < b.at_ ∧ (a.sec = 2 → a.at_ + 4 ≤ b.at_))
/-- the labels that are left: a place's and later ones, rising; the others are before it -/
structure LeftL (L R : List LabV) (sec at_ : Int) : Prop where
  all_ : ∃ D, L = D ++ R ∧ ∀ d ∈ D, befL sec at_ d
  rest : ∀ r ∈ R, ¬ befL sec at_ r
  rise : R.Pairwise leL
structure LeftF (F R : List FixV) (sec at_ : Int) : Prop where
  all_ : ∃ D, F = D ++ R ∧ ∀ d ∈ D, befF sec at_ d
  rest : ∀ r ∈ R, ¬ befF sec at_ r
  rise : R.Pairwise ltF
theorem labAt_bef {sec at_ : Int} {l : LabV} (h : befL sec at_ l) : labAt sec at_ l = false := by
  unfold labAt befL at *
  rcases h with h | ⟨h1, h2⟩
  · rw [decide_eq_false (by omega)]; rfl
  · rw [decide_eq_false (show ¬ l.at_ = at_ by omega), Bool.and_false]
theorem fixAt_bef {sec at_ : Int} {l : FixV} (h : befF sec at_ l) : fixAtB sec at_ l = false := by
  unfold fixAtB befF at *
  rcases h with h | ⟨h1, h2⟩
  · rw [decide_eq_false (by omega)]; rfl
  · rw [decide_eq_false (show ¬ l.at_ = at_ by omega), Bool.and_false]
theorem LeftL.atL_eq {L R : List LabV} {sec at_ : Int} (h : LeftL L R sec at_) : atL L sec at_ = atL R sec at_ := by
  obtain ⟨D, rfl, hD⟩ := h.all_
  unfold atL
  rw [List.filter_append, List.filter_eq_nil_iff.2 (fun d hd => by rw [labAt_bef (hD d hd)]; simp), List.nil_append]
theorem LeftF.fixT_eq {F R : List FixV} {sec at_ : Int} (h : LeftF F R sec at_) : fixT F sec at_ = fixT R sec at_ := by
  obtain ⟨D, rfl, hD⟩ := h.all_
  unfold fixT
  rw [List.find?_append, List.find?_eq_none.2 (fun d hd => by rw [fixAt_bef (hD d hd)]; simp)]
  rfl
/-- later than the first: not at the place either, where the first is not -/
theorem atL_stop {R : List LabV} {l : LabV} {sec at_ : Int} (hr : (l :: R).Pairwise leL) (hn : ¬ befL sec at_ l) (h : labAt sec at_ l = false) : atL (l :: R) sec at_ = e0B := by
  unfold atL
  rw [List.filter_eq_nil_iff.2]
  · rfl
  · intro d hd
    have hl : l.sec ≠ sec ∨ l.at_ ≠ at_ := by
      unfold labAt at h
      rcases Bool.and_eq_false_iff.1 h with h1 | h1
      · exact .inl (of_decide_eq_false h1)
      · exact .inr (of_decide_eq_false h1)
    unfold befL at hn
    rcases List.mem_cons.1 hd with rfl | hd
    · rw [h]; simp
    · have := (List.pairwise_cons.1 hr).1 d hd
      unfold leL at this
      unfold labAt
      intro hc
      rw [Bool.and_eq_true, decide_eq_true_eq, decide_eq_true_eq] at hc
      omega
theorem atL_take {R : List LabV} {l : LabV} {sec at_ : Int} (h : labAt sec at_ l = true) : atL (l :: R) sec at_ = labLn l ++ atL R sec at_ := by
  unfold atL
  rw [List.filter_cons_of_pos (by rw [h])]
  rfl
theorem atL_nil (sec at_ : Int) : atL [] sec at_ = e0B := rfl
/-- what is left when the labels of a place are taken -/
theorem LeftL.past {L R : List LabV} {sec at_ : Int} (hl : ∀ l, R.head? = some l → labAt sec at_ l = false) (h : LeftL L R sec at_) : LeftL L R sec (at_ + 1) := by
  obtain ⟨D, hD, hb⟩ := h.all_
  refine ⟨⟨D, hD, fun d hd => ?_⟩, fun r hr => ?_, h.rise⟩
  · have := hb d hd; unfold befL at *; omega
  · have h1 := h.rest r hr
    cases R with
    | nil => cases hr
    | cons l R =>
      have h2 := hl l rfl
      have h3 := h.rest l (by simp)
      have hq : l.sec ≠ sec ∨ l.at_ ≠ at_ := by
        unfold labAt at h2
        rcases Bool.and_eq_false_iff.1 h2 with h4 | h4
        · exact .inl (of_decide_eq_false h4)
        · exact .inr (of_decide_eq_false h4)
      unfold befL at *
      rcases List.mem_cons.1 hr with rfl | hr
      · omega
      · have := (List.pairwise_cons.1 h.rise).1 r hr
        unfold leL at this
        omega
/-- forward to a later place, where nothing is between -/
theorem LeftL.skip {L R : List LabV} {sec a b : Int} (h : LeftL L R sec a) (hab : a ≤ b) (hn : ∀ l, R.head? = some l → ¬ befL sec b l) : LeftL L R sec b := by
  obtain ⟨D, hD, hb⟩ := h.all_
  refine ⟨⟨D, hD, fun d hd => ?_⟩, fun r hr => ?_, h.rise⟩
  · have := hb d hd; unfold befL at *; omega
  · cases R with
    | nil => cases hr
    | cons l R =>
      have h2 := hn l rfl
      unfold befL at *
      rcases List.mem_cons.1 hr with rfl | hr
      · omega
      · have := (List.pairwise_cons.1 h.rise).1 r hr
        unfold leL at this
        omega
theorem LeftF.skip {F R : List FixV} {sec a b : Int} (h : LeftF F R sec a) (hab : a ≤ b) (hn : ∀ l, R.head? = some l → ¬ befF sec b l) : LeftF F R sec b := by
  obtain ⟨D, hD, hb⟩ := h.all_
  refine ⟨⟨D, hD, fun d hd => ?_⟩, fun r hr => ?_, h.rise⟩
  · have := hb d hd; unfold befF at *; omega
  · cases R with
    | nil => cases hr
    | cons l R =>
      have h2 := hn l rfl
      unfold befF at *
      rcases List.mem_cons.1 hr with rfl | hr
      · omega
      · have := (List.pairwise_cons.1 h.rise).1 r hr
        unfold ltF at this
        omega
/-- one label taken -/
theorem LeftL.take {L R : List LabV} {l : LabV} {sec at_ : Int} (h : LeftL L (l :: R) sec at_) (hl : labAt sec at_ l = true) : ∃ D, L = D ++ R ∧ (∀ d ∈ D, ¬ befL sec (at_ + 1) d → False) := by
  obtain ⟨D, hD, hb⟩ := h.all_
  refine ⟨D ++ [l], by rw [hD]; simp, fun d hd hn => hn ?_⟩
  unfold labAt at hl
  rw [Bool.and_eq_true, decide_eq_true_eq, decide_eq_true_eq] at hl
  rcases List.mem_append.1 hd with hd | hd
  · have := hb d hd; unfold befL at *; omega
  · obtain rfl := List.mem_singleton.1 hd
    unfold befL; omega
/-- while the labels of a place are taken: those that were are at it, or before it -/
structure AtL (L R : List LabV) (sec at_ : Int) : Prop where
  all_ : ∃ D, L = D ++ R ∧ ∀ d ∈ D, befL sec (at_ + 1) d
  rest : ∀ r ∈ R, ¬ befL sec at_ r
  rise : R.Pairwise leL
theorem LeftL.at_ {L R : List LabV} {sec at_ : Int} (h : LeftL L R sec at_) : AtL L R sec at_ := by
  obtain ⟨D, hD, hb⟩ := h.all_
  exact ⟨⟨D, hD, fun d hd => by have := hb d hd; unfold befL at *; omega⟩, h.rest, h.rise⟩
theorem AtL.take {L R : List LabV} {l : LabV} {sec at_ : Int} (h : AtL L (l :: R) sec at_) (hl : labAt sec at_ l = true) : AtL L R sec at_ := by
  obtain ⟨D, hD, hb⟩ := h.all_
  refine ⟨⟨D ++ [l], by rw [hD]; simp, fun d hd => ?_⟩, fun r hr => h.rest r (by simp [hr]), (List.pairwise_cons.1 h.rise).2⟩
  unfold labAt at hl
  rw [Bool.and_eq_true, decide_eq_true_eq, decide_eq_true_eq] at hl
  rcases List.mem_append.1 hd with hd | hd
  · exact hb d hd
  · obtain rfl := List.mem_singleton.1 hd
    unfold befL; omega
theorem AtL.done {L R : List LabV} {sec at_ : Int} (h : AtL L R sec at_) (hl : ∀ l, R.head? = some l → labAt sec at_ l = false) : LeftL L R sec (at_ + 1) := by
  refine ⟨h.all_, fun r hr => ?_, h.rise⟩
  have h1 := h.rest r hr
  cases R with
  | nil => cases hr
  | cons l R =>
    have h2 := hl l rfl
    have h3 := h.rest l (by simp)
    have hq : l.sec ≠ sec ∨ l.at_ ≠ at_ := by
      unfold labAt at h2
      rcases Bool.and_eq_false_iff.1 h2 with h4 | h4
      · exact .inl (of_decide_eq_false h4)
      · exact .inr (of_decide_eq_false h4)
    unfold befL at *
    rcases List.mem_cons.1 hr with rfl | hr
    · omega
    · have := (List.pairwise_cons.1 h.rise).1 r hr
      unfold leL at this
      omega
/-- the next fix is at the place, or none is -/
theorem fixT_here {R : List FixV} {f : FixV} {sec at_ : Int} (h : fixAtB sec at_ f = true) : fixT (f :: R) sec at_ = fixTx f := by
  unfold fixT
  rw [List.find?_cons_of_pos h]
theorem fixT_none {F R : List FixV} {sec at_ : Int} (h : LeftF F R sec at_) (hn : ∀ f, R.head? = some f → fixAtB sec at_ f = false) : fixT R sec at_ = e0B := by
  unfold fixT
  rw [List.find?_eq_none.2]
  intro d hd
  cases R with
  | nil => cases hd
  | cons f R =>
    have h2 := hn f rfl
    have h3 := h.rest f (by simp)
    have hq : f.sec ≠ sec ∨ f.at_ ≠ at_ := by
      unfold fixAtB at h2
      rcases Bool.and_eq_false_iff.1 h2 with h4 | h4
      · exact .inl (of_decide_eq_false h4)
      · exact .inr (of_decide_eq_false h4)
    rcases List.mem_cons.1 hd with rfl | hd
    · rw [h2]; simp
    · have := (List.pairwise_cons.1 h.rise).1 d hd
      unfold ltF at this
      unfold befF at h3
      unfold fixAtB
      intro hc
      rw [Bool.and_eq_true, decide_eq_true_eq, decide_eq_true_eq] at hc
      omega
theorem LeftF.past {F R : List FixV} {sec at_ : Int} (h : LeftF F R sec at_) (hn : ∀ f, R.head? = some f → fixAtB sec at_ f = false) : LeftF F R sec (at_ + 1) := h.skip (by omega) fun l hl => by
  have h2 := hn l hl
  have h3 := h.rest l (List.mem_of_mem_head? hl)
  have hq : l.sec ≠ sec ∨ l.at_ ≠ at_ := by
    unfold fixAtB at h2
    rcases Bool.and_eq_false_iff.1 h2 with h4 | h4
    · exact .inl (of_decide_eq_false h4)
    · exact .inr (of_decide_eq_false h4)
  unfold befF at *
  omega
theorem LeftF.take {F R : List FixV} {f : FixV} {sec at_ : Int} (h : LeftF F (f :: R) sec at_) (hf : fixAtB sec at_ f = true) : LeftF F R sec (at_ + (if sec = 2 then 4 else 1)) := by
  obtain ⟨D, hD, hb⟩ := h.all_
  unfold fixAtB at hf
  rw [Bool.and_eq_true, decide_eq_true_eq, decide_eq_true_eq] at hf
  refine ⟨⟨D ++ [f], by rw [hD]; simp, fun d hd => ?_⟩, fun r hr => ?_, (List.pairwise_cons.1 h.rise).2⟩
  · rcases List.mem_append.1 hd with hd | hd
    · have := hb d hd; unfold befF at *; split <;> omega
    · obtain rfl := List.mem_singleton.1 hd
      unfold befF; split <;> omega
  · have := (List.pairwise_cons.1 h.rise).1 r hr
    unfold ltF at this
    unfold befF
    split <;> omega
/-- an instruction's lines -/
def insT (x : ObjV) (i : Nat) : ByteArray := atL x.labels 1 i ++ (match x.code[i]? with
  | none => e0B
  | some t => ⟨#[9]⟩ ++ ⟨(opR t.1).w.toArray⟩ ++ (if 0 < (opR t.1).width then ⟨#[32]⟩ ++ (if fixT x.fixes 1 i = e0B then sgnT t.2 else fixT x.fixes 1 i) else e0B) ++ ⟨#[10]⟩)
/-- the code's lines from a place on -/
def codeR (x : ObjV) : Nat → Nat → ByteArray
  | 0, i => atL x.labels 1 i
  | k + 1, i => insT x i ++ codeR x k (i + 1)
/-- nothing begins at a place of the data -/
def clearD (x : ObjV) (k : Nat) : Bool := decide (atL x.labels 2 k = e0B) && decide (fixT x.fixes 2 k = e0B)
def stopG (x : ObjV) : Nat → Nat → Nat
  | 0, k => k
  | f + 1, k => if k < x.data.length ∧ clearD x k = true then stopG x f (k + 1) else k
def stopK (x : ObjV) (i : Nat) : Nat := stopG x 15 (i + 1)
/-- the bytes of a stretch, as a literal -/
def showT (l : List Int) : ByteArray := strOfNums (showL l)
/-- the data's lines from a place on -/
def dataR (x : ObjV) : Nat → Nat → ByteArray
  | 0, _ => atL x.labels 2 x.data.length
  | k + 1, i => if x.data.length ≤ i then atL x.labels 2 x.data.length else atL x.labels 2 i ++
      (if fixT x.fixes 2 i = e0B then ⟨#[9, 98, 121, 116, 101, 115, 32]⟩ ++ showT ((x.data.drop i).take (stopK x i - i)) ++ ⟨#[10]⟩ ++ dataR x k (stopK x i)
       else ⟨#[9, 119, 111, 114, 100, 32]⟩ ++ fixT x.fixes 2 i ++ ⟨#[10]⟩ ++ dataR x k (i + 4))
def hasL (L : List LabV) (sec : Int) : Bool := L.any fun l => decide (l.sec = sec)
def dataT (x : ObjV) : ByteArray := if x.data.length = 0 ∧ hasL x.labels 2 = false then e0B else ⟨#[100, 97, 116, 97, 10]⟩ ++ dataR x x.data.length 0
def spaceT (n : Int) : ByteArray := ⟨#[9, 115, 112, 97, 99, 101, 32]⟩ ++ decT n.toNat ++ ⟨#[10]⟩
/-- the noughts' lines, of labels, from a place on -/
def zeroR (z : Int) : List LabV → Int → ByteArray
  | [], at_ => if at_ < z then spaceT (z - at_) else e0B
  | l :: L, at_ => if l.sec = 3 then (if at_ < l.at_ then spaceT (l.at_ - at_) ++ (labLn l ++ zeroR z L l.at_) else labLn l ++ zeroR z L at_) else zeroR z L at_
def zeroT (x : ObjV) : ByteArray := if x.zero = 0 ∧ hasL x.labels 3 = false then e0B else ⟨#[122, 101, 114, 111, 10]⟩ ++ zeroR x.zero x.labels 0
def stackT (x : ObjV) : ByteArray := if x.stack = 0 then e0B else ⟨#[115, 116, 97, 99, 107, 32]⟩ ++ decT x.stack.toNat ++ ⟨#[10]⟩
def openT (l : LabV) : ByteArray := if l.opn = true then ⟨#[111, 112, 101, 110, 32]⟩ ++ l.name ++ ⟨#[10]⟩ else e0B
def targT (t : ByteArray) : ByteArray := ⟨#[116, 97, 114, 103, 101, 116, 32]⟩ ++ t ++ ⟨#[10]⟩
def numsB (s : ByteArray) : List Int := s.data.toList.map fun b => (b.toNat : Int)
def entT (t : EntV) : ByteArray := ⟨#[101, 110, 116, 114, 121, 32]⟩ ++ showT (numsB t.name) ++ ⟨#[44, 32]⟩ ++ t.lab ++ ⟨#[10]⟩
def codeT (x : ObjV) : ByteArray := ⟨#[99, 111, 100, 101, 10]⟩ ++ codeR x x.code.length 0
def restT (x : ObjV) : ByteArray := stackT x ++ (cat (x.labels.map openT) ++ (cat (x.targets.map targT) ++ cat (x.entries.map entT)))
def bodyT (x : ObjV) : ByteArray := codeT x ++ (dataT x ++ (zeroT x ++ restT x))
/-- Print's answer -/
def prtS (x : ObjV) : ByteArray := if okB x = true then (if 524288 < (bodyT x).size then e0B else bodyT x) else e0B
def prtE (x : ObjV) : Int := if okB x = true then (if 524288 < (bodyT x).size then 105 else 0) else 104
end Go.Proofs.YtnkfjileaonemaaGreatDoor
