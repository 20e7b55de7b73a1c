/-
  'string(b)' of a slice of bytes that is read: the text of these bytes.
-/
import Derived.Laws.BytesArg
import Derived.Test.YtmbofpeedjlfhaaDoorKit
import Derived.Test.YtmbofpeedjlfhaaDoorCoded
import Derived.Test.YtmbofpeedjlfhaaDoorWhole
namespace Go.Proofs.YtmbofpeedjlfhaaDoor
set_option maxRecDepth 100000
open Go.RowKit Go.PlainAid

/-- the text that these bytes are -/
def textOf (l : List Nat) : ByteArray := strOfNums (l.map Int.ofNat)
theorem textOf_size (l : List Nat) : (textOf l).size = l.length := by rw [textOf, strOfNums_size, List.length_map]
theorem textOf_isText (l : List Nat) (h : ∀ x ∈ l, x < 256) : IsText (textOf l) l := by
  refine ⟨textOf_size l, fun k hk => ?_⟩
  have hk' : k < (textOf l).size := by rw [textOf_size]; exact hk
  rw [← bn_eq _ _ hk']
  have hx := h (l[k]) (List.getElem_mem hk)
  rw [List.getElem?_eq_getElem hk, Option.getD_some]
  show ((textOf l).data[k]'hk').toNat = l[k]
  simp only [textOf, strOfNums, List.map_map, List.getElem_toArray, List.getElem_map, Function.comp_apply, Int.ofNat_eq_natCast, Int.toNat_natCast]
  rw [UInt8.toNat_ofNat', Nat.mod_eq_of_lt hx]

theorem run_text_of_reads {P : Program} (w : World) (B : Nat) (src e : TypeId) (hs : P.underlying src = some (.slice e)) (he : P.underlying e = some (.int .u8)) (A : Option Addr) (n c : Nat) (l : List Nat)
    (h : Reads w B 1 A n (n8s l)) (dst : TypeId) (hd : P.underlying dst = some .string) :
    (convert src dst (.slice A n c)).run P w = .ok (.string (textOf l)) w := by
  have hl : l.length = n := by simpa using h.1
  cases A with
  | none =>
    have h0 : n = 0 := by
      rcases Nat.eq_zero_or_pos n with c | c
      · exact c
      · obtain ⟨ad, e, _⟩ := h.2 c; cases e
    subst h0
    obtain rfl : l = [] := List.eq_nil_of_length_eq_zero hl
    rw [run_convert_bytes_nil w src e hs he 0 c dst hd]
    rfl
  | some a =>
    have hld : (loadCells a n).run P w = .ok ((l.map Int.ofNat).map (Value.int .u8)).toArray w := by
      have := run_loadCells_list (P := P) w a ((l.map Int.ofNat).map (Value.int .u8)) (fun j v hj => by
        have hj' : j < n := by
          rw [← hl]
          have := (List.getElem?_eq_some_iff.1 hj).1
          simpa using this
        obtain ⟨ad, e, _, hc⟩ := h.2 (by omega)
        injection e with e
        subst e
        refine hc j v ?_
        rw [List.map_map] at hj
        exact hj)
      simpa [hl] using this
    rw [run_convert_bytes_string w src dst e _ n c hs he hd, run_bytesToString w _ n c _ hld, foldl_push_bytes]
    simp [textOf, strOfNums, ByteArray.empty, ByteArray.emptyWithCapacity]
    rfl
theorem codeL_lt (r : Nat) (hr : isRune r) : ∀ x ∈ codeL r, x < 256 := by
  obtain ⟨h1, _⟩ := hr
  unfold codeL
  intro x hx
  repeat' split at hx
  all_goals
    simp only [List.mem_cons, List.not_mem_nil, or_false] at hx
    omega
theorem bytesOf_lt (rs : List Nat) (hr : ∀ r ∈ rs, isRune r) : ∀ x ∈ bytesOf rs, x < 256 := by
  intro x hx
  obtain ⟨r, hr1, hx1⟩ := List.mem_flatMap.1 hx
  exact codeL_lt r (hr r hr1) x hx1
end Go.Proofs.YtmbofpeedjlfhaaDoor
