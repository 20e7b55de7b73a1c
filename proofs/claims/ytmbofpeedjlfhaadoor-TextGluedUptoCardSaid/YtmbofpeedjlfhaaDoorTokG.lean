/-
  The walk of text.fit: may the signs be?
-/
import Derived.Test.YtmbofpeedjlfhaaDoorTokA
import Derived.Test.YtmbofpeedjlfhaaDoorShelf
import Derived.Shelf.Strings.SlTrimAscii
namespace Go.Proofs.YtmbofpeedjlfhaaDoor
open Go.RowKit Go.PlainAid
set_option linter.unusedVariables false
set_option maxRecDepth 100000

/-- the bytes that a sign may have -/
abbrev cutset : ByteArray := ⟨#[33, 36, 37, 38, 40, 41, 42, 43, 44, 45, 46, 47, 58, 59, 60, 61, 62, 63, 64, 91, 93, 94, 123, 124, 125, 126]⟩
theorem drop_nil {α : Type} (p : α → Bool) (l : List α) : (l.dropWhile p = []) ↔ ∀ x ∈ l, p x = true := by
  induction l with
  | nil => simp
  | cons a l ih =>
    rw [List.dropWhile_cons]
    by_cases h : p a = true
    · rw [if_pos h, ih]
      simp [h]
    · rw [if_neg h]
      simp [h]
theorem drop_head {α : Type} (p : α → Bool) (l : List α) (a : α) (r : List α) (h : l.dropWhile p = a :: r) : p a = false := by
  induction l with
  | nil => cases h
  | cons b l ih =>
    rw [List.dropWhile_cons] at h
    by_cases hb : p b = true
    · rw [if_pos hb] at h
      exact ih h
    · rw [if_neg hb] at h
      injection h with h1 h2
      subst h1
      simpa using hb
theorem trim_nil (l cs : List UInt8) : Lib.trimS l cs = [] ↔ ∀ x ∈ l, cs.contains x = true := by
  unfold Lib.trimS Lib.trimLeftS Lib.trimRightS
  rw [drop_nil]
  constructor
  · intro h
    cases e : List.dropWhile (fun x => cs.contains x) l.reverse with
    | nil =>
      rw [drop_nil] at e
      intro x hx
      exact e x (List.mem_reverse.2 hx)
    | cons a r =>
      rw [e] at h
      have h1 := h a (List.mem_reverse.2 (List.mem_cons_self ..))
      have h2 := drop_head (fun x => cs.contains x) l.reverse a r e
      rw [h1] at h2
      cases h2
  · intro h x hx
    refine h x ?_
    rw [List.mem_reverse] at hx
    exact List.mem_reverse.1 ((List.dropWhile_suffix _).subset hx)
theorem cutset_sign (b : UInt8) : cutset.data.toList.contains b = signC b.toNat := by
  have key : ∀ n : Fin 256, cutset.data.toList.contains (UInt8.ofNat n.val) = signC (UInt8.ofNat n.val).toNat := by decide +kernel
  have := key ⟨b.toNat, b.toNat_lt⟩
  simpa using this
theorem trim_sign (g : ByteArray) : (Lib.trimS g.data.toList cutset.data.toList = []) ↔ g.data.toList.all (fun b => signC b.toNat) = true := by
  rw [trim_nil, List.all_eq_true]
  constructor
  · intro h x hx
    rw [← cutset_sign]
    exact h x hx
  · intro h x hx
    rw [cutset_sign]
    exact h x hx
theorem contains_take (sg : List ByteArray) (k : Nat) (g : ByteArray) : Lib.containsS (sg.take k) g = memB (sg.take k) g := by
  rw [Bool.eq_iff_iff, Lib.containsS_iff, memB_iff]
set_option maxHeartbeats 2000000 in
theorem fit_any (A : Option Addr) (n c B : Nat) (sg : List ByteArray) (w : World) (hn : n ≤ 140737488351232) (hc : n ≤ c) (hr : Reads w B 1 A n (sg.map Value.string)) (hB : B ≤ w.heap.size) :
    Calls Tryd.prog 28 #[.slice A n c] w fun e w' => e = .returned (.bool (signsOk sg)) ∧ Below w.heap.size w w' := by
  have hlen : sg.length = n := by have := hr.1; simpa using this
  by_cases hbig : 64 < n
  · rw [signsOk_long sg (by omega)]
    have d0 : decide (64 < (n : Int)) = true := decide_eq_true (by omega)
    clear hlen hr
    go_enter Tryd.func28, Tryd.ntmps28
    go_wp2
    go_ret
    exact ⟨rfl, Below.refl _ _⟩
  have HG := hide_ (fun h => signsOk_good sg (by omega) h)
  have HBAD := hide_ (fun k hk h => signsOk_bad sg k hk h)
  have d64 : decide (64 < (n : Int)) = false := decide_eq_false (by omega)
  obtain ⟨R, hR⟩ : ∃ R, R = signsOk sg := ⟨_, rfl⟩
  rw [← hR] at HG HBAD ⊢
  clear hR
  have HR := hide_ hr
  have HLEN := hide_ hlen
  have HBB := hide_ hB
  clear hr hlen hB
  go_enter Tryd.func28, Tryd.ntmps28
  go_wp2
  go_loopw [10] (fun k wr => ∃ m : Nat, m ≤ n ∧ k = .int .i64 m ∧ Hid (∀ j, j < m → signAtOk sg j = true) ∧ Below w.heap.size w wr) (fun k _ => n - (intOf k).toNat)
  case atStart => exact ⟨0, Nat.zero_le _, rfl, hide_ (fun j hj => absurd hj (by omega)), Below.refl _ _⟩
  case round =>
    obtain ⟨m, hm, rfl, HM, hb⟩ := hrel
    by_cases hlt : m < n
    · obtain ⟨g, hg⟩ : ∃ g, sg[m]? = some g := ⟨_, List.getElem?_eq_getElem (by have := HLEN.out; omega)⟩
      obtain ⟨ad, rfl, hbk, hcl⟩ := (HR.out.below (hb.mono HBB.out)).2 (by omega)
      have hsp : ad.spot = none := by
        cases hs0 : sg with
        | nil => have := HLEN.out; rw [hs0] at this; simp at this; omega
        | cons g0 r =>
          have h0 := hcl 0 (.string g0) (by rw [hs0]; rfl)
          have := World.cell?_spot h0
          simpa [Addr.add] using this
      obtain ⟨b, o, sp⟩ := ad
      simp only at hsp
      subst hsp
      have hall : ∀ j, j < sg.length → wr.cell? ⟨b, o + j, none⟩ = some (.string (sg.getD j ByteArray.empty)) := fun j hj => by
        have := hcl j (.string (sg.getD j ByteArray.empty)) (by rw [List.getElem?_map, List.getD_eq_getElem?_getD, List.getElem?_eq_getElem hj]; rfl)
        rw [← this]
        congr 1
        unfold Addr.add
        split <;> simp_all
      have hgd : sg.getD m ⟨#[]⟩ = g := by rw [List.getD_eq_getElem?_getD, hg]; rfl
      have hcm : wr.cell? ⟨b, o + m, none⟩ = some (.string g) := by
        have := hall m (by have := HLEN.out; omega)
        rw [this, List.getD_eq_getElem?_getD, hg]
        rfl
      have hbs : b < wr.heap.size := by have := HBB.out; have := hb.size; simp only at hbk; omega
      have HCT := hide_ (show ∀ (C : Nat) (W : World), Below wr.heap.size wr W → Calls Tryd.prog 48 #[.slice (some ⟨b, o, none⟩) m C, .string g] W fun e w' => e = .returned (.bool (memB (sg.take m) g)) ∧ w' = W from fun C W hW => by
        rcases Nat.eq_zero_or_pos m with h0 | h0
        · subst h0
          exact Tryd.slices_Contains_string_empty _ C g W
        · rw [← contains_take]
          exact Tryd.slices_Contains_string b o m C sg g W (by have := HLEN.out; omega) (by omega) (fun j hj => (hW.cell (p := ⟨b, o + j, none⟩) hbs).trans (hall j hj)))
      have HSA := hide_ (show signAtOk sg m = (signOk g && !(memB (sg.take m) g)) by unfold signAtOk; rw [hgd])
      have HBm := hide_ (fun h => HBAD.out m (by have := HLEN.out; omega) h)
      have HB := hide_ hb
      have HSZ := hide_ hb.size
      have HALL := hide_ hall
      clear hcl hall hgd hg hbk hb
      by_cases h1 : g.size < 1
      · have HRF := hide_ (HBm.out (by rw [HSA.out]; unfold signOk; rw [decide_eq_false (by omega : ¬ 1 ≤ g.size)]; rfl))
        have d1 : decide ((g.size : Int) < 1) = true := decide_eq_true (by omega)
        clear h1
        go_wp2
        go_ret
        exact ⟨by rw [HRF.out]; rfl, HB.out⟩
      by_cases h3 : 3 < g.size
      · have HRF := hide_ (HBm.out (by rw [HSA.out]; unfold signOk; rw [decide_eq_false (by omega : ¬ g.size ≤ 3)]; simp))
        have d1 : decide ((g.size : Int) < 1) = false := decide_eq_false (by omega)
        have d3 : decide (3 < (g.size : Int)) = true := decide_eq_true (by omega)
        go_wp2
        go_ret
        exact ⟨by rw [HRF.out]; rfl, HB.out⟩
      have d1 : decide ((g.size : Int) < 1) = false := decide_eq_false (by omega)
      have d3 : decide (3 < (g.size : Int)) = false := decide_eq_false (by omega)
      have HTR := hide_ (show ∀ W : World, Calls Tryd.prog 47 #[.string g, .string cutset] W fun e w' => e = .returned (.string ⟨(Lib.trimS g.data.toList cutset.data.toList).toArray⟩) ∧ Below W.heap.size W w' from fun W =>
        Any.strings_Trim_laid Tryd.lays160 (by kernel_rfl) g cutset W (by omega) (by decide) (ascii_of_all (by decide)))
      cases htr : g.data.toList.all (fun b => signC b.toNat) with
      | false =>
        have HRF := hide_ (HBm.out (by rw [HSA.out]; unfold signOk; rw [htr]; simp))
        obtain ⟨t, ht⟩ : ∃ t : ByteArray, t = ⟨(Lib.trimS g.data.toList cutset.data.toList).toArray⟩ := ⟨_, rfl⟩
        have htn : 0 < t.size := by
          have h9 : Lib.trimS g.data.toList cutset.data.toList ≠ [] := fun h9 => by
            have := (trim_sign g).1 h9
            rw [htr] at this
            cases this
          rw [ht]
          exact List.length_pos_iff.2 h9
        rw [← ht] at HTR
        have dne := not_empty t htn
        clear ht htr HBm HSA h1 h3 htn
        go_wp2_with fail
        refine (HTR.out _).mono ?_
        rintro e w4 ⟨rfl, hb4⟩
        have HB4 := hide_ (HB.out.trans (hb4.mono HSZ.out))
        clear hb4
        go_wp2
        go_ret
        exact ⟨by rw [HRF.out]; rfl, HB4.out⟩
      | true =>
        rw [(trim_sign g).2 htr] at HTR
        cases hmb : memB (sg.take m) g with
        | true =>
          have HRF := hide_ (HBm.out (by rw [HSA.out, hmb]; simp))
          rw [hmb] at HCT
          clear htr HBm HSA h1 h3 hmb
          go_wp2_with fail
          refine (HTR.out _).mono ?_
          rintro e w4 ⟨rfl, hb4⟩
          have HB4 := hide_ (HB.out.trans (hb4.mono HSZ.out))
          have HW4 := hide_ hb4
          clear hb4
          go_wp2_with fail
          refine (HCT.out _ _ HW4.out).mono ?_
          rintro e w5 ⟨rfl, rfl⟩
          go_wp2
          go_ret
          exact ⟨by rw [HRF.out]; rfl, HB4.out⟩
        | false =>
          have HNX := hide_ (show signAtOk sg m = true by
            rw [HSA.out, hmb]
            unfold signOk
            rw [htr, decide_eq_true (by omega : 1 ≤ g.size), decide_eq_true (by omega : g.size ≤ 3)]
            rfl)
          rw [hmb] at HCT
          clear htr HBm HSA h1 h3 hmb
          go_wp2_with fail
          refine (HTR.out _).mono ?_
          rintro e w4 ⟨rfl, hb4⟩
          have HB4 := hide_ (HB.out.trans (hb4.mono HSZ.out))
          have HW4 := hide_ hb4
          clear hb4
          go_wp2_with fail
          refine (HCT.out _ _ HW4.out).mono ?_
          rintro e w5 ⟨rfl, rfl⟩
          go_wp2
          go_roundw
          case rel => exact ⟨m + 1, by omega, by go_num, hide_ (fun j hj => by
            rcases Nat.lt_or_ge j m with h | h
            · exact HM.out j h
            · obtain rfl : j = m := by omega
              exact HNX.out), HB4.out⟩
          case measure => simp [intOf]; omega
    · obtain rfl : m = n := by omega
      have HRT := hide_ (HG.out (fun k hk => HM.out k (by have := HLEN.out; omega)))
      have HB := hide_ hb
      clear hb
      go_wp2
      go_ret
      exact ⟨by rw [HRT.out]; rfl, HB.out⟩
end Go.Proofs.YtmbofpeedjlfhaaDoor
