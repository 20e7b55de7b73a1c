/-
  The document's Where; the statement TextWhere.
-/
import Derived.Test.YtohpnalklbjkoaaLines
import Derived.Test.YtohpnalklbjkoaaCutsWalk
namespace Go.Proofs.Ytohpnalklbjkoaa
open Go.RowKit Go.PlainAid

/-- the runes of a list that begin from 'first' on and ahead of k -/
def cntL (l : List (Nat × Int)) (first k : Nat) : Nat := colL (l.filter fun x => decide (x.1 < k)) first
theorem cntL_snoc (l : List (Nat × Int)) (x : Nat × Int) (first k : Nat) : cntL (l ++ [x]) first k = cntL l first k + (if first ≤ x.1 ∧ x.1 < k then 1 else 0) := by
  unfold cntL
  rw [List.filter_append]
  by_cases h : x.1 < k
  · have e : [x].filter (fun x => decide (x.1 < k)) = [x] := by simp [h]
    rw [e, colL_snoc]
    by_cases g : first ≤ x.1 <;> simp [g, h]
  · have e : [x].filter (fun x => decide (x.1 < k)) = [] := by simp; omega
    rw [e, List.append_nil, if_neg (by omega)]
    rfl
theorem cntL_le (l : List (Nat × Int)) (first k : Nat) : cntL l first k ≤ l.length := Nat.le_trans (colL_le _ _) (List.length_filter_le _ _)
theorem take_one {α : Type} (l : List α) (m : Nat) (c : α) (h : l[m]? = some c) : l.take (m + 1) = l.take m ++ [c] := by
  rw [List.take_add_one, h]
  rfl
set_option maxHeartbeats 400000 in
theorem rWhere_no (s : ByteArray) (a : Int) (w : World) (h : a < 0 ∨ (s.size : Int) < a) : Calls Try.prog 30 #[.string s, .int .i64 a] w (WhereIs 0 0 16 w) := by
  rcases h with h | h
  · have d1 : decide (a < 0) = true := by simpa using h
    clear h
    go_enter Try.func30, Try.ntmps30
    go_wp2
    go_ret3
    exact ⟨rfl, Below.refl _ _⟩
  · have d1 : decide (a < 0) = false := by simp; omega
    have d2 : decide ((s.size : Int) < a) = true := by simpa using h
    clear h
    go_enter Try.func30, Try.ntmps30
    go_wp2
    go_ret3
    exact ⟨rfl, Below.refl _ _⟩
set_option maxRecDepth 100000 in
set_option maxHeartbeats 1000000 in
theorem rWhere_yes (s : ByteArray) (k : Nat) (w : World) (hz : s.size ≤ 1048576) (hk : k ≤ s.size) :
    Calls Try.prog 30 #[.string s, .int .i64 k] w (WhereIs (1 + endsN s k : Nat) (colN s (beginN s k) k : Nat) 0 w) := by
  have g1 : decide ((k : Int) < 0) = false := by simp
  have g2 : decide ((s.size : Int) < (k : Int)) = false := by simp; omega
  have HE := hide_ (endsN_le s)
  have HB := hide_ (beginN_le s)
  have HEk := HE.out k
  have HBk := HB.out k
  have hcl := cuts_len s
  have HCN := hide_ (show colN s (beginN s k) k = cntL (cuts s) (beginN s k) k + 1 from rfl)
  go_enter Try.func30, Try.ntmps30
  go_wp2
  go_loopw [7, 8, 9] (fun l b i wr => ∃ j : Nat, j ≤ k ∧ i = .int .i64 j ∧ l = .int .i64 (1 + endsN s j : Nat) ∧ b = .int .i64 (beginN s j : Nat) ∧ wr = w) (fun _ _ i _ => k - (intOf i).toNat)
  case atStart => exact ⟨0, Nat.zero_le _, rfl, rfl, rfl, rfl⟩
  case round =>
    obtain ⟨j, hj, rfl, rfl, rfl, rfl⟩ := hrel
    have hjE := HE.out j
    have hjB := HB.out j
    by_cases hlt : j < k
    · have hbt := get_bt s
      have hbe := bt_eq s j (by omega)
      have hst : endsN s (j + 1) = endsN s j + (if bn s j = 10 then 1 else 0) := rfl
      have hsb : beginN s (j + 1) = if bn s j = 10 then j + 1 else beginN s j := rfl
      obtain ⟨D, hD⟩ : ∃ D, D = endsN s j := ⟨_, rfl⟩
      obtain ⟨G, hG⟩ : ∃ G, G = beginN s j := ⟨_, rfl⟩
      rw [← hD] at hst hjE ⊢
      rw [← hG] at hsb hjB ⊢
      by_cases hten : bn s j = 10
      · have d1 : (bt s j == 10) = true := by rw [beq_iff_eq]; omega
        rw [if_pos hten] at hst hsb
        have HST := hide_ hst
        have HSB := hide_ hsb
        clear hst hsb hten hbe hD hG
        go_wp2
        go_roundw
        case rel => exact ⟨j + 1, by omega, by go_num, by rw [HST.out]; go_num, by rw [HSB.out]; go_num, by trivial⟩
        case measure => simp [intOf]; omega
      · have d1 : (bt s j == 10) = false := by rw [beq_eq_false_iff_ne]; omega
        rw [if_neg hten] at hst hsb
        have HST := hide_ hst
        have HSB := hide_ hsb
        clear hst hsb hten hbe hD hG
        go_wp2
        go_roundw
        case rel => exact ⟨j + 1, by omega, by go_num, by rw [HST.out]; rfl, by rw [HSB.out], by trivial⟩
        case measure => simp [intOf]; omega
    · obtain rfl : j = k := by omega
      obtain ⟨D, hD⟩ : ∃ D, D = endsN s j := ⟨_, rfl⟩
      obtain ⟨G, hG⟩ : ∃ G, G = beginN s j := ⟨_, rfl⟩
      have HCN2 := HCN.out
      rw [← hG] at HCN2
      rw [← hD, ← hG]
      rw [← hD] at hjE
      rw [← hG] at hjB
      have HCN3 := hide_ HCN2
      have HD := hide_ hD
      have HG := hide_ hG
      clear hD hG HCN2
      go_wp2_with (go_at_call 14; refine (Cuts_reads s _ hz).mono ?_)
      rintro e w1 ⟨A1, c1, A2, c2, rfl, hP, _, hb1⟩
      go_wp2
      go_loopw [10, 13] (fun cc i wr => ∃ m : Nat, m ≤ (cuts s).length ∧ i = .int .i64 m ∧ cc = .int .i64 (cntL ((cuts s).take m) G j + 1 : Nat) ∧ ∃ nq, wr = w1.drewN nq) (fun _ i _ => (cuts s).length - (intOf i).toNat)
      case atStart => exact ⟨0, Nat.zero_le _, rfl, rfl, 0, rfl⟩
      case round =>
        obtain ⟨m, hm, rfl, rfl, nq, rfl⟩ := hrel
        have hcc := cntL_le ((cuts s).take m) G j
        have hct : ((cuts s).take m).length ≤ m := by simp; omega
        by_cases hlt2 : m < (cuts s).length
        · obtain ⟨ad, u, rfl, _, hu, hc⟩ := (hP.drewN nq).at_ hlt2
          obtain ⟨c, hcc2⟩ : ∃ c, (cuts s)[m]? = some c := ⟨_, List.getElem?_eq_getElem hlt2⟩
          have e1 : u = .int .i64 (c.1 : Nat) := by rw [List.getElem?_map, hcc2] at hu; simpa using hu.symm
          subst e1
          have hsn := cntL_snoc ((cuts s).take m) c G j
          rw [← take_one (cuts s) m c hcc2] at hsn
          obtain ⟨p, hp⟩ : ∃ p, p = c.1 := ⟨_, rfl⟩
          rw [← hp] at hsn hc
          obtain ⟨C, hC⟩ : ∃ C, C = cntL ((cuts s).take m) G j := ⟨_, rfl⟩
          rw [← hC] at hsn hcc ⊢
          clear hu hcc2 hp hC
          by_cases h1 : G ≤ p
          · have d1 : decide ((G : Int) ≤ (p : Int)) = true := by simp; omega
            have d1n : decide (G ≤ p) = true := by simpa using h1
            by_cases h2 : p < j
            · have d2 : decide ((p : Int) < (j : Int)) = true := by simp; omega
              have d2n : decide (p < j) = true := by simpa using h2
              rw [if_pos ⟨h1, h2⟩] at hsn
              have HSN := hide_ hsn
              clear h1 h2 hsn
              go_wp2
              go_roundw
              case rel => exact ⟨m + 1, by omega, by go_num, by rw [HSN.out]; go_num, nq, rfl⟩
              case measure => simp [intOf]; omega
            · have d2 : decide ((p : Int) < (j : Int)) = false := by simp; omega
              have d2n : decide (p < j) = false := by simpa using h2
              rw [if_neg (fun x => h2 x.2)] at hsn
              have HSN := hide_ hsn
              clear h1 h2 hsn
              go_wp2
              go_roundw
              case rel => exact ⟨m + 1, by omega, by go_num, by rw [HSN.out], nq, rfl⟩
              case measure => simp [intOf]; omega
          · have d1 : decide ((G : Int) ≤ (p : Int)) = false := by simp; omega
            have d1n : decide (G ≤ p) = false := by simpa using h1
            rw [if_neg (fun x => h1 x.1)] at hsn
            have HSN := hide_ hsn
            clear h1 hsn
            go_wp2
            go_roundw
            case rel => exact ⟨m + 1, by omega, by go_num, by rw [HSN.out], nq, rfl⟩
            case measure => simp [intOf]; omega
        · obtain rfl : m = (cuts s).length := by omega
          have HT := hide_ (show (cuts s).take (cuts s).length = cuts s from List.take_length)
          rw [HT.out] at hcc ⊢
          go_wp2
          go_ret3
          have e1 : ((1 + endsN s j : Nat) : Int) = 1 + (D : Int) := by rw [HD.out]; omega
          have e2 : colN s (beginN s j) j = cntL (cuts s) G j + 1 := by rw [← HG.out]; exact HCN3.out
          rw [e1, e2]
          exact ⟨rfl, ⟨hb1.os, hb1.tape, hb1.output, hb1.size, hb1.block⟩⟩
theorem TextWhere_walk (s : ByteArray) (a : Int) (w : World) (hz : s.size ≤ 1048576) (_wl : (Lit.int .i64 a).wf = true) :
    Calls Try.prog 9 #[.string s, .int .i64 a] w fun e w' => e = .returned (.bool true) ∧ Below w.heap.size w w' := by
  have key : ∃ l c er, (∀ W, Calls Try.prog 29 #[.string s, .int .i64 a] W (WhereIs l c er W)) ∧ (∀ W, Calls Try.prog 30 #[.string s, .int .i64 a] W (WhereIs l c er W)) := by
    by_cases h : a < 0 ∨ (s.size : Int) < a
    · exact ⟨_, _, _, fun W => Where_no s a W h, fun W => rWhere_no s a W h⟩
    · obtain ⟨k, hk⟩ : ∃ k : Nat, a = (k : Int) := ⟨a.toNat, by omega⟩
      subst hk
      exact ⟨_, _, _, fun W => Where_yes s k W (by omega) (by omega), fun W => rWhere_yes s k W hz (by omega)⟩
  obtain ⟨l, c, er, h1, h2⟩ := key
  have H1 := hide_ h1
  have H2 := hide_ h2
  clear h1 h2
  go_enter Try.func9, Try.ntmps9
  go_wp2_with (first
    | (go_at_call 29; refine (H1.out _).mono ?_; rintro e w1 ⟨rfl, b1⟩)
    | (go_at_call 30; refine (H2.out _).mono ?_; rintro e w2 ⟨rfl, b2⟩))
  go_ret
  refine ⟨by simp, b1.trans (b2.mono b1.size)⟩
end Go.Proofs.Ytohpnalklbjkoaa
