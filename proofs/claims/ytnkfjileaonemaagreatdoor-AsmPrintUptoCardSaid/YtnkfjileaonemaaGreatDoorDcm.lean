/-
  Numbers as text: the document's nat.
-/
import Derived.Test.YtnkfjileaonemaaGreatDoorProg
import Derived.Test.YtnkfjileaonemaaGreatDoorKit
import Derived.Test.YtnkfjileaonemaaGreatDoorShN
import Derived.PlainAid
import Derived.Deep.RegionHeld3
namespace Go.Proofs.YtnkfjileaonemaaGreatDoor
open Go.RowKit
set_option linter.unusedSimpArgs false
set_option linter.unusedVariables false
abbrev u8q (xs : List Int) : List Value := xs.map (Value.int .u8)
theorem dcm_str {P : Program} (w : World) (B : Nat) (src e : TypeId) (hs : P.underlying src = some (.slice e)) (he : P.underlying e = some (.int .u8)) (A : Option Addr) (n c : Nat) (l : List Int)
    (h : Reads w B 1 A n (u8q l)) (dst : TypeId) (hd : P.underlying dst = some .string) :
    (convert src dst (.slice A n c)).run P w = .ok (.string (strOfNums l)) w := by
  have hl : l.length = n := by simpa using h.1
  cases A with
  | none =>
    have h0 : n = 0 := by
      rcases Nat.eq_zero_or_pos n with c | c
      · exact c
      · obtain ⟨ad, e, _⟩ := h.2 c; cases e
    subst h0
    obtain rfl : l = [] := List.eq_nil_of_length_eq_zero hl
    rw [run_convert_bytes_nil w src e hs he 0 c dst hd]
    rfl
  | some a =>
    have hld : (loadCells a n).run P w = .ok (l.map (Value.int .u8)).toArray w := by
      have := run_loadCells_list (P := P) w a (l.map (Value.int .u8)) (fun j v hj => by
        have hj' : j < n := by
          rw [← hl]
          have := (List.getElem?_eq_some_iff.1 hj).1
          simpa using this
        obtain ⟨ad, e, _, hc⟩ := h.2 (by omega)
        injection e with e
        subst e
        exact hc j v hj)
      simpa [hl] using this
    rw [run_convert_bytes_string w src dst e _ n c hs he hd, run_bytesToString w _ n c _ hld, foldl_push_bytes]
    simp [strOfNums, ByteArray.empty, ByteArray.emptyWithCapacity]
    rfl
/-- a number's digits, as numbers -/
def dcm (v : Nat) : List Int := (Lib.decDigits v).map fun b => (b.toNat : Int)
theorem dcm_str_eq (v : Nat) : strOfNums (dcm v) = ⟨(Lib.decDigits v).toArray⟩ := by
  unfold strOfNums dcm
  congr 1
  rw [List.map_map]
  congr 1
  conv => rhs; rw [← List.map_id (Lib.decDigits v)]
  exact List.map_congr_left fun b _ => by simp
theorem dcm_low {v : Nat} (h : v < 10) : dcm v = [48 + (v : Int)] := by
  unfold dcm
  rw [Lib.decDigits, dif_pos h]
  simp
  omega
theorem dcm_high {v : Nat} (h : ¬ v < 10) : dcm v = dcm (v / 10) ++ [48 + ((v % 10 : Nat) : Int)] := by
  unfold dcm
  rw [Lib.decDigits, dif_neg h, List.map_append]
  simp
  omega
def d0 (v : Nat) : List Int := if v = 0 then [] else dcm v
theorem d0_pos {v : Nat} (h : v ≠ 0) : d0 v = d0 (v / 10) ++ [48 + ((v % 10 : Nat) : Int)] := by
  unfold d0
  rw [if_neg h]
  by_cases h1 : v < 10
  · rw [dcm_low h1, if_pos (by omega), Nat.mod_eq_of_lt h1]
    rfl
  · rw [dcm_high h1, if_neg (by omega)]
theorem u32_block (w : World) (x : Nat) : Reads (w.alloc (.cells #[.int .u32 x, .int .u32 0] 24)) (w.alloc (.cells #[.int .u32 x, .int .u32 0] 24)).heap.size 1 (some ⟨w.heap.size, 0, none⟩) 1 [.int .u32 x] :=
  ⟨rfl, fun _ => ⟨_, rfl, by simp, fun j u hu => by
    have hj : j = 0 := by
      have := (List.getElem?_eq_some_iff.1 hu).1
      simp at this
      omega
    subst hj
    simp at hu
    subst hu
    simp [Addr.add]⟩⟩
/-- the list of a number below 2^32 -/
def natL (x : Nat) : List Value := if x = 0 then [] else [.int .u32 x]
def natN (x : Nat) : Nat := if x = 0 then 0 else 1
set_option maxHeartbeats 1000000 in
theorem nat_any (x : Nat) (hx : x < 4294967296) (w : World) : Calls Tryz.prog 80 #[.int .u64 x] w fun e w' => ∃ A, e = .returned (.slice A (natN x) 2) ∧ Reads w' w'.heap.size 1 A (natN x) (natL x) ∧ Below w.heap.size w w' := by
  by_cases h0 : x = 0
  · subst h0
    go_enter Tryz.func80, Tryz.ntmps80
    go_wp2
    go_loop [4] (fun n => ∃ k : Nat, k ≤ 2 ∧ n = .int .i64 k) (fun n => (intOf n).toNat)
    case atStart => exact ⟨2, by omega, rfl⟩
    case round =>
      obtain ⟨k, hk, rfl⟩ := hrel
      rcases (show k = 0 ∨ k = 1 ∨ k = 2 by omega) with rfl | rfl | rfl
      · go_wp2
        go_ret
        exact ⟨_, rfl, ⟨rfl, fun h => absurd h (by simp [natN])⟩, (Below.refl _ _).alloc (Nat.le_refl _) _⟩
      · go_wp2
        go_round
        case rel => exact ⟨0, by omega, rfl⟩
        case measure => simp [intOf]
      · go_wp2
        go_round
        case rel => exact ⟨1, by omega, rfl⟩
        case measure => simp [intOf]
  · have e1 : (x : Int) % 4294967296 = x := by omega
    have e2 : (x : Int) / 4294967296 = 0 := by omega
    have e3 : ((x : Int) == 0) = false := by simpa using h0
    have hN : natN x = 1 := if_neg h0
    have hL : natL x = [.int .u32 x] := if_neg h0
    have HR := hide_ (u32_block w x)
    have HN := hide_ hN
    have HL := hide_ hL
    clear hN hL h0
    have x0 : (0 : Int) ≤ x := by omega
    have x1 : (x : Int) < 4294967296 := by omega
    go_enter Tryz.func80, Tryz.ntmps80
    go_wp2
    go_loop [4] (fun n => ∃ k : Nat, 1 ≤ k ∧ k ≤ 2 ∧ n = .int .i64 k) (fun n => (intOf n).toNat)
    case atStart => exact ⟨2, by omega, by omega, rfl⟩
    case round =>
      obtain ⟨k, hk1, hk, rfl⟩ := hrel
      rcases (show k = 1 ∨ k = 2 by omega) with rfl | rfl
      · go_wp2
        go_ret
        exact ⟨_, by rw [HN.out]; rfl, by rw [HN.out, HL.out]; exact HR.out, (Below.refl _ _).alloc (Nat.le_refl _) _⟩
      · go_wp2
        go_round
        case rel => exact ⟨1, by omega, by omega, rfl⟩
        case measure => simp [intOf]
end Go.Proofs.YtnkfjileaonemaaGreatDoor
