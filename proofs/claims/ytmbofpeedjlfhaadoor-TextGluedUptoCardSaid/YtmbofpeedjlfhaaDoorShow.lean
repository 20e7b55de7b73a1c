/-
  The literal of bytes: plain law, the document's Show, text.Show.
-/
import Derived.Laws.BytesArg
import Derived.Test.YtmbofpeedjlfhaaDoorBytes
import Derived.Test.YtmbofpeedjlfhaaDoorBuilder
import Derived.Test.YtmbofpeedjlfhaaDoorShelf
namespace Go.Proofs.YtmbofpeedjlfhaaDoor
set_option maxRecDepth 100000
open Go.RowKit Go.PlainAid

def nibN (x : Int) : Int := if x < 10 then 48 + x else 87 + x
/-- what stands for a byte -/
def showB (c : Int) : List Int :=
  if c = 10 then [92, 110] else if c = 9 then [92, 116] else if c = 13 then [92, 114] else if c = 0 then [92, 48] else if c = 34 then [92, 34] else if c = 92 then [92, 92]
  else if 32 ≤ c ∧ c ≤ 126 then [c] else [92, 120, nibN (c / 16), nibN (c % 16)]
def showM (l : List Int) : List Int := 34 :: l.flatMap showB
def showL (l : List Int) : List Int := showM l ++ [34]
theorem showB_len (c : Int) : (showB c).length ≤ 4 := by
  unfold showB
  repeat' split
  all_goals simp
theorem showM_snoc (l : List Int) (x : Int) : showM (l ++ [x]) = showM l ++ showB x := by simp [showM]
theorem showM_len (l : List Int) : (showM l).length ≤ 4 * l.length + 1 := by
  unfold showM
  rw [List.length_cons]
  have : (l.flatMap showB).length ≤ 4 * l.length := by
    induction l with
    | nil => simp
    | cons c l ih =>
      have := showB_len c
      rw [List.flatMap_cons]
      simp only [List.length_append, List.length_cons]
      omega
  omega
def isByte (x : Int) : Prop := 0 ≤ x ∧ x ≤ 255
theorem nibN_byte (x : Int) (h0 : 0 ≤ x) (h1 : x < 16) : isByte (nibN x) := by unfold nibN isByte; split <;> omega
theorem showB_byte (c : Int) (h : isByte c) : ∀ x ∈ showB c, isByte x := by
  obtain ⟨h0, h1⟩ := h
  have n1 := nibN_byte (c / 16) (by omega) (by omega)
  have n2 := nibN_byte (c % 16) (by omega) (by omega)
  intro x hx
  unfold showB at hx
  repeat' split at hx
  all_goals
    simp only [List.mem_cons, List.not_mem_nil, or_false] at hx
  all_goals first
    | (rcases hx with rfl | rfl | rfl | rfl <;> first | exact n1 | exact n2 | (unfold isByte; omega))
    | (rcases hx with rfl | rfl <;> unfold isByte <;> omega)
    | (subst hx; unfold isByte; omega)
theorem showL_byte (l : List Int) (h : ∀ x ∈ l, isByte x) : ∀ x ∈ showL l, isByte x := by
  intro x hx
  simp only [showL, showM, List.mem_append, List.mem_cons, List.mem_flatMap, List.not_mem_nil, or_false] at hx
  rcases hx with (rfl | ⟨c, hc, hx⟩) | rfl
  · unfold isByte; omega
  · exact showB_byte c (h c hc) x hx
  · unfold isByte; omega
theorem run_str_of_reads {P : Program} (w : World) (B : Nat) (src e : TypeId) (hs : P.underlying src = some (.slice e)) (he : P.underlying e = some (.int .u8)) (A : Option Addr) (n c : Nat) (l : List Int)
    (h : Reads w B 1 A n (u8s l)) (dst : TypeId) (hd : P.underlying dst = some .string) :
    (convert src dst (.slice A n c)).run P w = .ok (.string (strOfNums l)) w := by
  have hl : l.length = n := by simpa using h.1
  cases A with
  | none =>
    have h0 : n = 0 := by
      rcases Nat.eq_zero_or_pos n with c | c
      · exact c
      · obtain ⟨ad, e, _⟩ := h.2 c; cases e
    subst h0
    obtain rfl : l = [] := List.eq_nil_of_length_eq_zero hl
    rw [run_convert_bytes_nil w src e hs he 0 c dst hd]
    rfl
  | some a =>
    have hld : (loadCells a n).run P w = .ok (l.map (Value.int .u8)).toArray w := by
      have := run_loadCells_list (P := P) w a (l.map (Value.int .u8)) (fun j v hj => by
        have hj' : j < n := by
          rw [← hl]
          have := (List.getElem?_eq_some_iff.1 hj).1
          simpa using this
        obtain ⟨ad, e, _, hc⟩ := h.2 (by omega)
        injection e with e
        subst e
        exact hc j v hj)
      simpa [hl] using this
    rw [run_convert_bytes_string w src dst e _ n c hs he hd, run_bytesToString w _ n c _ hld, foldl_push_bytes]
    simp [strOfNums, ByteArray.empty, ByteArray.emptyWithCapacity]
    rfl
/-- bytes, as the shelf has them -/
def b8s (l : List Int) : List UInt8 := l.map fun x => UInt8.ofNat x.toNat
theorem b8s_cells (l : List Int) (h : ∀ x ∈ l, isByte x) : u8s l = Lib.byteCells (b8s l) := by
  induction l with
  | nil => rfl
  | cons x l ih =>
    obtain ⟨h0, h1⟩ := h x (by simp)
    have e : ((UInt8.ofNat x.toNat).toNat : Int) = x := by rw [UInt8.toNat_ofNat', Nat.mod_eq_of_lt (by omega)]; omega
    have := ih (fun y hy => h y (by simp [hy]))
    simp only [u8s, Lib.byteCells, b8s, List.map_cons, e] at this ⊢
    rw [this]
/-- the ways of a byte -/
theorem show_ways (x : Int) (h : isByte x) : (x = 10 ∨ x = 9 ∨ x = 13 ∨ x = 0 ∨ x = 34 ∨ x = 92) ∨ (32 ≤ x ∧ x ≤ 126 ∧ x ≠ 34 ∧ x ≠ 92) ∨ ((x < 32 ∧ 0 < x ∧ x ≠ 10 ∧ x ≠ 9 ∧ x ≠ 13) ∨ (126 < x ∧ x ≤ 255)) := by unfold isByte at h; omega
theorem showB_self (x : Int) (h : 32 ≤ x ∧ x ≤ 126 ∧ x ≠ 34 ∧ x ≠ 92) : showB x = [x] := by
  unfold showB
  rw [if_neg (by omega), if_neg (by omega), if_neg (by omega), if_neg (by omega), if_neg (by omega), if_neg (by omega), if_pos (by omega)]
theorem showB_hex (x : Int) (h : (x < 32 ∧ 0 < x ∧ x ≠ 10 ∧ x ≠ 9 ∧ x ≠ 13) ∨ (126 < x ∧ x ≤ 255)) : showB x = [92, 120, nibN (x / 16), nibN (x % 16)] := by
  unfold showB
  rw [if_neg (by omega), if_neg (by omega), if_neg (by omega), if_neg (by omega), if_neg (by omega), if_neg (by omega), if_neg (by omega)]

end Go.Proofs.YtmbofpeedjlfhaaDoor
