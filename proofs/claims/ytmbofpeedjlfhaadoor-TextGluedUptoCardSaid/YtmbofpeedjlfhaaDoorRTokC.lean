/-
  The walks of the document's signAt and SignsMay.
-/
import Derived.Test.YtmbofpeedjlfhaaDoorRTokA
import Derived.Test.YtmbofpeedjlfhaaDoorTokG
namespace Go.Proofs.YtmbofpeedjlfhaaDoor
open Go.RowKit Go.PlainAid Go.BigFrame
set_option linter.unusedVariables false
set_option maxRecDepth 100000

/-- some answers of the tape are drawn, and nothing else is done -/
def Drew (w w' : World) : Prop := ∃ k, w' = w.drewN k
theorem Drew.refl (w : World) : Drew w w := ⟨0, rfl⟩
theorem Drew.more {w w' : World} (h : Drew w w') (k : Nat) : Drew w (w'.drewN k) := by
  obtain ⟨n, rfl⟩ := h
  exact ⟨n + k, World.drewN_drewN _ _ _⟩
theorem Drew.trans {a b c : World} (h : Drew a b) (k : Drew b c) : Drew a c := by
  obtain ⟨n, rfl⟩ := k
  exact h.more n
theorem Drew.cell {w w' : World} (h : Drew w w') (p : Addr) : w'.cell? p = w.cell? p := by obtain ⟨n, rfl⟩ := h; rfl
theorem Drew.size {w w' : World} (h : Drew w w') : w'.heap.size = w.heap.size := by obtain ⟨n, rfl⟩ := h; rfl
theorem Drew.below {w w' : World} (h : Drew w w') (B : Nat) : Below B w w' := by obtain ⟨n, rfl⟩ := h; exact ⟨rfl, rfl, rfl, Nat.le_refl _, fun _ _ => rfl⟩
theorem toList_ne {a b : ByteArray} (h : a ≠ b) : (a.toList == b.toList) = false := by
  rw [beq_eq_false_iff_ne]
  intro h2
  rw [ByteArray.toList_eq, ByteArray.toList_eq] at h2
  exact h (ByteArray.ext (Array.toList_inj.1 h2))
/-- a list of texts in memory, each in its cell -/
theorem reads_strs {w : World} {B n : Nat} {A : Option Addr} {sg : List ByteArray} (hr : Reads w B 1 A n (sg.map Value.string)) (hn : 0 < n) :
    ∃ b o, A = some ⟨b, o, none⟩ ∧ b < B ∧ ∀ j g, sg[j]? = some g → w.cell? ⟨b, o + j, none⟩ = some (.string g) := by
  obtain ⟨⟨b, o, sp⟩, rfl, hbk, hcl⟩ := hr.2 hn
  have hl : sg.length = n := by have := hr.1; simpa using this
  have hsp : sp = none := by
    cases hs0 : sg with
    | nil => rw [hs0] at hl; simp at hl; omega
    | cons g0 r =>
      have h0 := hcl 0 (.string g0) (by rw [hs0]; rfl)
      have := World.cell?_spot h0
      simpa [Addr.add] using this
  subst hsp
  refine ⟨b, o, rfl, hbk, fun j g hg => ?_⟩
  have := hcl j (.string g) (by rw [List.getElem?_map, hg]; rfl)
  rw [← this]
  congr 1
  unfold Addr.add
  split <;> simp_all
set_option maxHeartbeats 2000000 in
theorem signAt_any (s : ByteArray) (i : Nat) (A : Option Addr) (n c B : Nat) (sg : List ByteArray) (w : World) (hz : s.size ≤ 1048576) (hi : i < s.size) (hn : n ≤ 1048576) (hsz : ∀ g ∈ sg, g.size ≤ 140737488351232) (hr : Reads w B 1 A n (sg.map Value.string)) (hB : B ≤ w.heap.size) :
    Calls Tryd.prog 85 #[.string s, .int .i64 i, .slice A n c] w fun e w' => e = .returned (.string (signN s i sg)) ∧ Drew w w' := by
  have hlen : sg.length = n := by have := hr.1; simpa using this
  have HR := hide_ hr
  have HLEN := hide_ hlen
  have HBB := hide_ hB
  have HSZ := hide_ hsz
  clear hr hlen hB hsz
  go_enter Tryd.func85, Tryd.ntmps85
  go_wp2
  go_loopw [7, 8] (fun b k wr => ∃ m : Nat, m ≤ n ∧ k = .int .i64 m ∧ b = .string (signN s i (sg.take m)) ∧ Drew w wr) (fun _ k _ => n - (intOf k).toNat)
  case atStart => exact ⟨0, Nat.zero_le _, rfl, rfl, Drew.refl w⟩
  case round =>
    obtain ⟨m, hm, rfl, rfl, hd⟩ := hrel
    have HD := hide_ hd
    by_cases hlt : m < n
    · obtain ⟨g, hg⟩ : ∃ g, sg[m]? = some g := ⟨_, List.getElem?_eq_getElem (by have := HLEN.out; omega)⟩
      obtain ⟨b, o, rfl, hbk, hcl⟩ := reads_strs HR.out (by omega)
      have hcm : wr.cell? ⟨b, o + m, none⟩ = some (.string g) := (hd.cell _).trans (hcl m g hg)
      have hbs : b < wr.heap.size := by rw [hd.size]; have := HBB.out; omega
      have hgs : g.size ≤ 140737488351232 := HSZ.out g (List.mem_of_getElem? hg)
      have hst := signN_take s i sg m g hg
      obtain ⟨bst, hbst⟩ : ∃ b, b = signN s i (sg.take m) := ⟨_, rfl⟩
      rw [← hbst] at hst ⊢
      unfold bestS at hst
      have s1 : IntKind.i64.wrap ((i : Int) + g.size) = (i : Int) + g.size := IntWalk.i64_in _ (by omega)
      have s2 : (0 : Int) ≤ (i : Int) + g.size := by omega
      have s3 : ((i : Int) + g.size).toNat = i + g.size := by omega
      clear hcl hg hbst hd
      by_cases h1 : bst.size < g.size
      · have d1 : decide (bst.size < g.size) = true := decide_eq_true h1
        by_cases h2 : i + g.size ≤ s.size
        · have d2 : decide ((i : Int) + g.size ≤ s.size) = true := decide_eq_true (by omega)
          have d2' : (i : Int) + g.size ≤ s.size := by omega
          by_cases h3 : s.extract i (i + g.size) = g
          · rw [if_pos ⟨h1, h2, h3⟩] at hst
            have HST := hide_ hst
            clear hst h1
            go_upto_region 6 with (fail)
            go_big_quiet (fail)
            go_wp2
            go_roundw
            case rel => exact ⟨m + 1, by omega, by go_num, by rw [HST.out], HD.out.more _⟩
            case measure => simp [intOf]; omega
          · rw [if_neg (fun h => h3 h.2.2)] at hst
            have HST := hide_ hst
            have d3 := toList_ne h3
            clear hst h1 h3
            go_upto_region 6 with (fail)
            go_big_quiet (fail)
            go_wp2
            go_roundw
            case rel => exact ⟨m + 1, by omega, by go_num, by rw [HST.out], HD.out.more _⟩
            case measure => simp [intOf]; omega
        · rw [if_neg (fun h => h2 h.2.1)] at hst
          have HST := hide_ hst
          have d2 : decide ((i : Int) + g.size ≤ s.size) = false := decide_eq_false (by omega)
          clear hst h1
          go_upto_region 6 with (fail)
          go_big_quiet (fail)
          go_wp2
          go_roundw
          case rel => exact ⟨m + 1, by omega, by go_num, by rw [HST.out], HD.out.more _⟩
          case measure => simp [intOf]; omega
      · rw [if_neg (fun h => h1 h.1)] at hst
        have HST := hide_ hst
        have d1 : decide (bst.size < g.size) = false := by simpa using h1
        clear hst h1
        go_upto_region 6 with (fail)
        go_big_quiet (fail)
        go_wp2
        go_roundw
        case rel => exact ⟨m + 1, by omega, by go_num, by rw [HST.out], HD.out.more _⟩
        case measure => simp [intOf]; omega
    · obtain rfl : m = n := by omega
      have HT := hide_ (show sg.take m = sg from List.take_of_length_le (by have := HLEN.out; omega))
      clear hd
      go_wp2
      go_ret
      exact ⟨by rw [HT.out]; rfl, HD.out⟩
theorem signC_all (g : ByteArray) (h : ∀ t, t < g.size → signC (bn g t) = true) : g.data.toList.all (fun b => signC b.toNat) = true := by
  rw [List.all_eq_true]
  intro x hx
  obtain ⟨t, ht, rfl⟩ := List.mem_iff_getElem.1 hx
  have ht' : t < g.size := by simpa using ht
  have := h t ht'
  rw [← bn_eq g t ht'] at this
  have e : g.data.toList[t] = g[t]'ht' := by rw [Array.getElem_toList]; rfl
  rw [e]
  exact this
theorem signC_not (g : ByteArray) (t : Nat) (ht : t < g.size) (h : signC (bn g t) = false) : g.data.toList.all (fun b => signC b.toNat) = false := by
  rw [Bool.eq_false_iff]
  intro ha
  rw [List.all_eq_true] at ha
  have := ha (g[t]) (by rw [List.mem_iff_getElem]; exact ⟨t, by simpa using ht, by rw [Array.getElem_toList]; rfl⟩)
  rw [← bn_eq g t ht] at h
  rw [h] at this
  cases this
set_option maxHeartbeats 2000000 in
theorem SignsMay_any (A : Option Addr) (n c B : Nat) (sg : List ByteArray) (w : World) (hn : n ≤ 140737488351232) (hsz : ∀ g ∈ sg, g.size ≤ 140737488351232) (hr : Reads w B 1 A n (sg.map Value.string)) (hB : B ≤ w.heap.size) :
    Calls Tryd.prog 20 #[.slice A n c] w fun e w' => e = .returned (.bool (signsOk sg)) ∧ Drew w w' := by
  have hlen : sg.length = n := by have := hr.1; simpa using this
  by_cases hbig : 64 < n
  · rw [signsOk_long sg (by omega)]
    have d0 : decide (64 < (n : Int)) = true := decide_eq_true (by omega)
    clear hlen hr
    go_enter Tryd.func20, Tryd.ntmps20
    go_wp2
    go_ret
    exact ⟨rfl, Drew.refl w⟩
  have HG := hide_ (fun h => signsOk_good sg (by omega) h)
  have HBAD := hide_ (fun k hk h => signsOk_bad sg k hk h)
  have d64 : decide (64 < (n : Int)) = false := decide_eq_false (by omega)
  obtain ⟨R, hR⟩ : ∃ R, R = signsOk sg := ⟨_, rfl⟩
  rw [← hR] at HG HBAD ⊢
  clear hR
  have HR := hide_ hr
  have HLEN := hide_ hlen
  have HBB := hide_ hB
  have HSZ := hide_ hsz
  clear hr hlen hB hsz
  go_enter Tryd.func20, Tryd.ntmps20
  go_wp2
  go_loopw [3] (fun k wr => ∃ m : Nat, m ≤ n ∧ k = .int .i64 m ∧ Hid (∀ j, j < m → signAtOk sg j = true) ∧ Drew w wr) (fun k _ => n - (intOf k).toNat)
  case atStart => exact ⟨0, Nat.zero_le _, rfl, hide_ (fun j hj => absurd hj (by omega)), Drew.refl w⟩
  case round =>
    obtain ⟨m, hm, rfl, HM, hd⟩ := hrel
    have HD := hide_ hd
    by_cases hlt : m < n
    · obtain ⟨g, hg⟩ : ∃ g, sg[m]? = some g := ⟨_, List.getElem?_eq_getElem (by have := HLEN.out; omega)⟩
      obtain ⟨b, o, rfl, hbk, hcl⟩ := reads_strs HR.out (by omega)
      have hgd : sg.getD m ⟨#[]⟩ = g := by rw [List.getD_eq_getElem?_getD, hg]; rfl
      have hgs : g.size ≤ 140737488351232 := HSZ.out g (List.mem_of_getElem? hg)
      have HCL := hide_ hcl
      have HGM := hide_ hg
      have hcm : wr.cell? ⟨b, o + m, none⟩ = some (.string g) := (hd.cell _).trans (hcl m g hg)
      have hbs : b < wr.heap.size := by rw [hd.size]; have := HBB.out; omega
      have HSA := hide_ (show signAtOk sg m = (signOk g && !(memB (sg.take m) g)) by unfold signAtOk; rw [hgd])
      have HBm := hide_ (fun h => HBAD.out m (by have := HLEN.out; omega) h)
      clear hcl hgd hg hd
      by_cases h1 : g.size < 1
      · have HRF := hide_ (HBm.out (by rw [HSA.out]; unfold signOk; rw [decide_eq_false (by omega : ¬ 1 ≤ g.size)]; rfl))
        have d1 : decide ((g.size : Int) < 1) = true := decide_eq_true (by omega)
        clear h1
        go_wp2
        go_ret
        exact ⟨by rw [HRF.out]; rfl, HD.out⟩
      have d1 : decide ((g.size : Int) < 1) = false := decide_eq_false (by omega)
      by_cases h3 : 3 < g.size
      · have HRF := hide_ (HBm.out (by rw [HSA.out]; unfold signOk; rw [decide_eq_false (by omega : ¬ g.size ≤ 3)]; simp))
        have d3 : decide (3 < (g.size : Int)) = true := decide_eq_true (by omega)
        go_wp2
        go_ret
        exact ⟨by rw [HRF.out]; rfl, HD.out⟩
      have d3 : decide (3 < (g.size : Int)) = false := decide_eq_false (by omega)
      have hbt := get_bt g
      obtain ⟨W0, hW0⟩ : ∃ W0, W0 = wr := ⟨_, rfl⟩
      rw [← hW0] at hcm hbs HD ⊢
      clear hW0
      go_wp2
      go_loopw [4] (fun k wr => ∃ j : Nat, j ≤ g.size ∧ k = .int .i64 j ∧ Hid (∀ t, t < j → signC (bn g t) = true) ∧ W0 = wr) (fun k _ => g.size - (intOf k).toNat)
      case atStart => exact ⟨0, Nat.zero_le _, rfl, hide_ (fun j hj => absurd hj (by omega)), rfl⟩
      case round =>
        obtain ⟨j, hj, rfl, HJ, rfl⟩ := hrel
        by_cases hjl : j < g.size
        · have HSB := hide_ (fun W => signByte_any (bt g j) W)
          have hbj := bt_eq g j hjl
          have hb0 := bt_nonneg g j
          have hb1 := bt_le g j
          have hz : signZ (bt g j) = signC (bn g j) := by rw [hbj, signZ_nat]
          cases hc : signC (bn g j) with
          | true =>
            rw [hz, hc] at HSB
            have HJ2 := hide_ (show ∀ t, t < j + 1 → signC (bn g t) = true from fun t ht => by
              rcases Nat.lt_or_ge t j with h | h
              · exact HJ.out t h
              · obtain rfl : t = j := by omega
                exact hc)
            clear hz hc hbj HJ
            go_wp2_with fail
            refine (HSB.out _).mono ?_
            rintro e w2 ⟨rfl, rfl⟩
            go_wp2
            go_roundw
            case rel => exact ⟨j + 1, by omega, by go_num, HJ2, by trivial⟩
            case measure => simp [intOf]; omega
          | false =>
            rw [hz, hc] at HSB
            have HRF := hide_ (HBm.out (by rw [HSA.out]; unfold signOk; rw [signC_not g j hjl hc]; simp))
            clear hz hc hbj HJ
            go_wp2_with fail
            refine (HSB.out _).mono ?_
            rintro e w2 ⟨rfl, rfl⟩
            go_wp2
            go_ret
            exact ⟨by rw [HRF.out]; rfl, HD.out⟩
        · obtain rfl : j = g.size := by omega
          have HOK := hide_ (show signOk g = true by
            unfold signOk
            rw [signC_all g HJ.out, decide_eq_true (by omega : 1 ≤ g.size), decide_eq_true (by omega : g.size ≤ 3)]
            rfl)
          clear HJ
          go_wp2
          go_loopw [5] (fun k wr => ∃ j : Nat, j ≤ m ∧ k = .int .i64 j ∧ Hid (∀ t, t < j → sg[t]? ≠ some g) ∧ Drew W0 wr) (fun k _ => m - (intOf k).toNat)
          case atStart => exact ⟨0, Nat.zero_le _, rfl, hide_ (fun j hj => absurd hj (by omega)), Drew.refl W0⟩
          case round =>
            obtain ⟨j, hj, rfl, HJ, hd2⟩ := hrel
            have HD2 := hide_ (HD.out.trans hd2)
            have HDW := hide_ hd2
            by_cases hjm : j < m
            · obtain ⟨x, hx⟩ : ∃ x, sg[j]? = some x := ⟨_, List.getElem?_eq_getElem (by have := HLEN.out; omega)⟩
              have hcx : wr.cell? ⟨b, o + j, none⟩ = some (.string x) := (HD2.out.cell _).trans (HCL.out j x hx)
              have hcm2 : wr.cell? ⟨b, o + m, none⟩ = some (.string g) := (hd2.cell _).trans hcm
              have hbs2 : b < wr.heap.size := by rw [hd2.size]; exact hbs
              by_cases hxg : x = g
              · subst hxg
                have hmem : x ∈ sg.take m := by
                  refine List.mem_of_getElem? (i := j) ?_
                  rw [List.getElem?_take]
                  rw [if_pos hjm]
                  exact hx
                have HRF := hide_ (HBm.out (by
                  rw [HSA.out, (memB_iff (sg.take m) x).2 hmem]
                  simp))
                clear hx HJ hd2 hmem
                go_upto_region 16 with (fail)
                go_big_quiet (fail)
                go_wp2
                go_ret
                exact ⟨by rw [HRF.out]; rfl, HD2.out.more _⟩
              · have HJ2 := hide_ (show ∀ t, t < j + 1 → sg[t]? ≠ some g from fun t ht => by
                  rcases Nat.lt_or_ge t j with h | h
                  · exact HJ.out t h
                  · obtain rfl : t = j := by omega
                    rw [hx]
                    intro h2
                    injection h2 with h2
                    exact hxg h2)
                have dne := toList_ne hxg
                clear hx HJ hd2 hxg
                go_upto_region 16 with (fail)
                go_big_quiet (fail)
                go_wp2
                go_roundw
                case rel => exact ⟨j + 1, by omega, by go_num, HJ2, HDW.out.more _⟩
                case measure => simp [intOf]; omega
            · obtain rfl : j = m := by omega
              have HNX := hide_ (show signAtOk sg j = true by
                rw [HSA.out, HOK.out]
                have : memB (sg.take j) g = false := by
                  rw [Bool.eq_false_iff]
                  intro h
                  rw [memB_iff] at h
                  obtain ⟨t, ht⟩ := List.mem_iff_getElem?.1 h
                  rw [List.getElem?_take] at ht
                  split at ht
                  · rename_i h9
                    exact HJ.out t h9 ht
                  · cases ht
                rw [this]
                rfl)
              clear hd2
              go_wp2
              go_roundw
              case rel => exact ⟨j + 1, by omega, by go_num, hide_ (fun t ht => by
                rcases Nat.lt_or_ge t j with h | h
                · exact HM.out t h
                · obtain rfl : t = j := by omega
                  exact HNX.out), HD2.out⟩
              case measure => simp [intOf]; omega
    · obtain rfl : m = n := by omega
      have HRT := hide_ (HG.out (fun k hk => HM.out k (by have := HLEN.out; omega)))
      clear hd
      go_wp2
      go_ret
      exact ⟨by rw [HRT.out]; rfl, HD.out⟩
end Go.Proofs.YtmbofpeedjlfhaaDoor
