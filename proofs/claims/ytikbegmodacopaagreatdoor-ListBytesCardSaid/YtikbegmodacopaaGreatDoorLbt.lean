/-
  ListBytes: reading a row: nibble, pairs.
-/
import Derived.Test.YtikbegmodacopaaGreatDoorB27
namespace Go.Proofs.YtikbegmodacopaaGreatDoor
open Go.RowKit Go.PlainAid Go.BigFrame Go.Shelf
set_option linter.unusedSimpArgs false
set_option linter.unusedVariables false
set_option maxRecDepth 100000
theorem nibble12_any (c : Nat) (hc : c < 256) (w : World) : Calls Tryz.prog 33 #[.int .u8 c] w fun e w' => e = .returned (.int .i64 (nibV c : Nat)) ∧ w' = w := by
  by_cases h1 : 48 ≤ c ∧ c ≤ 57
  · obtain ⟨a, b⟩ := h1
    have e : nibV c = c - 48 := by unfold nibV; rw [if_pos ⟨a, b⟩]
    obtain ⟨d, hd⟩ : ∃ d, c = d + 48 := ⟨c - 48, by omega⟩
    have e2 : (nibV c : Int) = (c : Int) - 48 := by omega
    rw [e2]
    have s1 : IntKind.u8.wrap ((c : Int) - 48) = (c : Int) - 48 := IntWalk.u8_in _ (by omega)
    have s2 : IntKind.i64.wrap ((c : Int) - 48) = (c : Int) - 48 := IntWalk.i64_in _ (by omega)
    have c1 : decide ((48 : Int) ≤ (c : Int)) = true := decide_eq_true (by omega)
    have c2 : decide ((c : Int) ≤ 57) = true := decide_eq_true (by omega)
    clear e e2 hd
    go_enter Tryz.func33, Tryz.ntmps33
    go_wp2
    go_ret
    exact ⟨rfl, rfl⟩
  · by_cases h2 : 97 ≤ c ∧ c ≤ 102
    · obtain ⟨a, b⟩ := h2
      have e : nibV c = c - 87 := by unfold nibV; rw [if_neg h1, if_pos ⟨a, b⟩]
      have e2 : (nibV c : Int) = (c : Int) - 97 + 10 := by omega
      rw [e2]
      have s1 : IntKind.u8.wrap ((c : Int) - 97) = (c : Int) - 97 := IntWalk.u8_in _ (by omega)
      have s2 : IntKind.i64.wrap ((c : Int) - 97) = (c : Int) - 97 := IntWalk.i64_in _ (by omega)
      have s3 : IntKind.i64.wrap ((c : Int) - 97 + 10) = (c : Int) - 97 + 10 := IntWalk.i64_in _ (by omega)
      have c1 : decide ((48 : Int) ≤ (c : Int)) = true := decide_eq_true (by omega)
      have c2 : decide ((c : Int) ≤ 57) = false := decide_eq_false (by omega)
      have c3 : decide ((97 : Int) ≤ (c : Int)) = true := decide_eq_true (by omega)
      have c4 : decide ((c : Int) ≤ 102) = true := decide_eq_true (by omega)
      clear e e2 h1
      go_enter Tryz.func33, Tryz.ntmps33
      go_wp2
      go_ret
      exact ⟨rfl, rfl⟩
    · have e : nibV c = 16 := by unfold nibV; rw [if_neg h1, if_neg h2]
      rw [e]
      have hways : c < 48 ∨ (57 < c ∧ c < 97) ∨ 102 < c := by omega
      clear e h1 h2
      rcases hways with h | ⟨h, h'⟩ | h
      · go_enter Tryz.func33, Tryz.ntmps33
        go_wp2
        go_ret
        exact ⟨rfl, rfl⟩
      · go_enter Tryz.func33, Tryz.ntmps33
        go_wp2
        go_ret
        exact ⟨rfl, rfl⟩
      · go_enter Tryz.func33, Tryz.ntmps33
        go_wp2
        go_ret
        exact ⟨rfl, rfl⟩
theorem bl_drop (s : ByteArray) (i : Nat) (h : i < s.size) : (bl s).drop i = bn s i :: (bl s).drop (i + 1) := by
  rw [List.drop_eq_getElem_cons (by rw [bl_len]; exact h)]
  congr 1
  have := bl_bn s i h
  rw [List.getElem?_eq_getElem (by rw [bl_len]; exact h)] at this
  exact Option.some.inj this
theorem prsL_short : ∀ (f : Nat) (l : List Nat), l.length ≤ 2 → prsL f l = []
  | 0, _, _ => rfl
  | f + 1, [], _ => rfl
  | f + 1, [a], _ => rfl
  | f + 1, [a, b], _ => rfl
  | f + 1, a :: b :: c :: t, h => by simp at h
set_option maxHeartbeats 4000000 in
theorem pairs_any (s : ByteArray) (hs : s.size ≤ 1000) (w : World) :
    Calls Tryz.prog 32 #[.string s, .int .i64 7] w fun e w' => ∃ v, e = .returned v ∧ w'.ownsRow w.heap.size 5 1 v (prsL s.size ((bl s).drop 7)).length (u8s (prsL s.size ((bl s).drop 7))) ∧ Below w.heap.size w w' := by
  obtain ⟨i0, hi, hz0, hz1, hz2⟩ := info_parts bld_u8
  obtain ⟨R, hR⟩ : ∃ R, R = prsL s.size ((bl s).drop 7) := ⟨_, rfl⟩
  rw [← hR]
  have HNB := hide_ (fun c hc W => nibble12_any c hc W)
  go_enter Tryz.func32, Tryz.ntmps32
  go_wp2
  go_loopw [1, 5] (fun s1 v wr => ∃ (k : Nat) (L : List Int), s1 = .int .i64 ((7 + 3 * k : Nat) : Int) ∧ L.length = k ∧ 3 * k ≤ s.size ∧ Hid (L ++ prsL (s.size - k) ((bl s).drop (7 + 3 * k)) = R) ∧ wr.ownsRow w.heap.size 5 1 v k (u8s L) ∧ Below w.heap.size w wr) (fun s1 _ _ => s.size + 7 - (intOf s1).toNat)
  case atStart => exact ⟨0, [], rfl, rfl, by omega, hide_ hR.symm, World.ownsRow_nil _ _ _ _, Below.refl _ _⟩
  case round =>
    obtain ⟨k, L, rfl, hL, hk, HR, hown, hb⟩ := hrel
    clear hR
    obtain ⟨A0, c0, hv0, hc0, hc1⟩ := ownsRow_slice hown
    subst hv0
    have HO := hide_ (one_row (r := ⟨5, 1, .slice A0 k c0, k, u8s L⟩) hown)
    have HB := hide_ hb
    obtain ⟨p, hp⟩ : ∃ p, p = 7 + 3 * k := ⟨_, rfl⟩
    rw [← hp] at HR ⊢
    have HFIN := hide_ (fun (h : prsL (s.size - k) ((bl s).drop p) = []) => show ∃ v, Ending.returned (.slice A0 k c0) = .returned v ∧ wr.ownsRow w.heap.size 5 1 v R.length (u8s R) ∧ Below w.heap.size w wr from by
      have e := HR.out
      rw [h, List.append_nil] at e
      subst e
      rw [hL]
      exact ⟨_, rfl, hown, hb⟩)
    clear hown hb hc0 hc1
    have w2 : IntKind.i64.wrap ((p : Int) + 2) = (p : Int) + 2 := IntWalk.i64_in _ (by omega)
    have w1 : IntKind.i64.wrap ((p : Int) + 1) = (p : Int) + 1 := IntWalk.i64_in _ (by omega)
    have w3 : IntKind.i64.wrap ((p : Int) + 3) = (p : Int) + 3 := IntWalk.i64_in _ (by omega)
    by_cases hlt : p + 2 < s.size
    · have hd := bl_drop s p (by omega)
      have hd1 := bl_drop s (p + 1) (by omega)
      have hd2 := bl_drop s (p + 1 + 1) (by omega)
      rw [hd1, hd2] at hd
      obtain ⟨f, hf⟩ : ∃ f, s.size - k = f + 1 := ⟨s.size - k - 1, by omega⟩
      rw [hd, hf, prsL_cons] at HR HFIN
      have hb := get_bt s
      have b0 := bt_eq s p (by omega)
      have b1 := bt_eq s (p + 1) (by omega)
      have b2 := bt_eq s (p + 1 + 1) (by omega)
      have l0 := bn_lt s p
      have l1 := bn_lt s (p + 1)
      have l2 := bn_lt s (p + 1 + 1)
      have b2' : bt s (p + 2) = (bn s (p + 1 + 1) : Int) := b2
      obtain ⟨c, hc⟩ : ∃ c, c = bn s p := ⟨_, rfl⟩
      obtain ⟨x, hx⟩ : ∃ c, c = bn s (p + 1) := ⟨_, rfl⟩
      obtain ⟨y, hy⟩ : ∃ c, c = bn s (p + 1 + 1) := ⟨_, rfl⟩
      rw [← hc, ← hx, ← hy] at HR HFIN
      rw [← hc] at b0 l0
      rw [← hx] at b1 l1
      rw [← hy] at b2' l2
      have HN1 := hide_ (HNB.out x l1)
      have HN2 := hide_ (HNB.out y l2)
      have c1 : decide ((p : Int) + 2 < (s.size : Int)) = true := decide_eq_true (by omega)
      have i1 : ((p : Int) + 1).toNat = p + 1 := by omega
      have i2 : ((p : Int) + 2).toNat = p + 2 := by omega
      have i3 : (0 : Int) ≤ (p : Int) + 1 := by omega
      have i4 : (0 : Int) ≤ (p : Int) + 2 := by omega
      have i5 : (p : Int) + 1 < (s.size : Int) := by omega
      have i6 : (p : Int) + 2 < (s.size : Int) := by omega
      have i7 : (p : Int) < (s.size : Int) := by omega
      have HP := hide_ hp
      have HLT := hide_ hlt
      have HL := hide_ hL
      have HF := hide_ hf
      clear hd hd1 hd2 b2 hc hx hy hp hlt hf hL
      by_cases h32 : c = 32
      · subst h32
        obtain ⟨X, hX⟩ : ∃ X, X = nibV x := ⟨_, rfl⟩
        obtain ⟨Y, hY⟩ : ∃ X, X = nibV y := ⟨_, rfl⟩
        rw [← hX, ← hY] at HR HFIN
        rw [← hX] at HN1
        rw [← hY] at HN2
        have HXB := hide_ (show X ≤ 16 ∧ Y ≤ 16 by
          have : ∀ z, nibV z ≤ 16 := fun z => by unfold nibV; split; omega; split; omega; omega
          exact ⟨by rw [hX]; exact this x, by rw [hY]; exact this y⟩)
        clear hX hY
        go_wp2_with fail
        refine (HN1.out _).mono ?_
        rintro e w4 ⟨rfl, rfl⟩
        go_wp2_with fail
        refine (HN2.out _).mono ?_
        rintro e w5 ⟨rfl, rfl⟩
        obtain ⟨xb, yb⟩ := HXB.out
        by_cases hx15 : 15 < X
        · have q1 : decide ((15 : Int) < (X : Int)) = true := decide_eq_true (by omega)
          have q2 : decide (15 < X) = true := decide_eq_true hx15
          have FIN := hide_ (HFIN.out (if_neg (fun h => by omega)))
          clear HFIN HR
          go_wp2
          go_ret
          exact FIN.out
        · by_cases hy15 : 15 < Y
          · have q1 : decide ((15 : Int) < (X : Int)) = false := decide_eq_false (by omega)
            have q2 : decide (15 < X) = false := decide_eq_false hx15
            have q3 : decide ((15 : Int) < (Y : Int)) = true := decide_eq_true (by omega)
            have q4 : decide (15 < Y) = true := decide_eq_true hy15
            have FIN := hide_ (HFIN.out (if_neg (fun h => by omega)))
            clear HFIN HR
            go_wp2
            go_ret
            exact FIN.out
          · have q1 : decide ((15 : Int) < (X : Int)) = false := decide_eq_false (by omega)
            have q2 : decide (15 < X) = false := decide_eq_false hx15
            have q3 : decide ((15 : Int) < (Y : Int)) = false := decide_eq_false (by omega)
            have q4 : decide (15 < Y) = false := decide_eq_false hy15
            have HR2 := hide_ (show L ++ [((16 * X + Y : Nat) : Int)] ++ prsL (s.size - (k + 1)) ((bl s).drop (7 + 3 * (k + 1))) = R by
              have e := HR.out
              rw [if_pos ⟨by first | rfl | trivial, by omega, by omega⟩] at e
              rw [← e, show s.size - (k + 1) = f by have := HF.out; omega, show 7 + 3 * (k + 1) = p + 1 + 1 + 1 by have := HP.out; omega]
              simp)
            have m1 : IntKind.i64.wrap (16 * (X : Int)) = 16 * (X : Int) := IntWalk.i64_in _ (by omega)
            have m2 : IntKind.i64.wrap (16 * (X : Int) + (Y : Int)) = 16 * (X : Int) + (Y : Int) := IntWalk.i64_in _ (by omega)
            have m3 : IntKind.u8.wrap (16 * (X : Int) + (Y : Int)) = 16 * (X : Int) + (Y : Int) := IntWalk.u8_in _ (by omega)
            have HSZ := hide_ HB.out.size
            clear HFIN HR
            go_wp2_with (at_builtin; go_must (refine wpList_append_owns _ rfl (.tmp 35) (.tmp 41) 24 rfl w.heap.size _ 0 5 1 (.slice A0 k c0) k (u8s L) rfl (HO.out.alloc _) (by have := HSZ.out; simp; omega) i0 _ 1 Tryz.underlying24 hi hz0 hz1 hz2 rfl (by omega) rfl _ _ 1 1 [.int .u8 (16 * (X : Int) + (Y : Int))] rfl (reads_new _ 5 1 1 [.int .u8 (16 * (X : Int) + (Y : Int))] rfl) (by simp [Value.oneCell']) (by simp only [maxLen]; omega) (by omega) ?_))
            intro v1 w6 hO1 hb6 hsz6
            have HB6 := hide_ ((HB.out.alloc HB.out.size _).trans hb6)
            have HO6 := hide_ (hO1.at_ (i := 0) rfl)
            clear hO1 hb6 hsz6 HO
            go_wp2
            go_roundw
            case rel => exact ⟨k + 1, L ++ [((16 * X + Y : Nat) : Int)], by have := HP.out; first | (rw [w3]; congr 1; omega) | (congr 1; omega), by rw [List.length_append, HL.out]; rfl, by have := HP.out; have := HLT.out; omega, HR2, by
              have h := HO6.out
              have e : u8s (L ++ [((16 * X + Y : Nat) : Int)]) = u8s L ++ [.int .u8 (16 * (X : Int) + (Y : Int))] := by simp [u8s]
              rw [e]
              exact h, HB6.out⟩
            case measure => have := HLT.out; simp [intOf]; omega
      · have q0 : ((c : Int) == 32) = false := by simpa using (by omega : ¬ (c : Int) = 32)
        have q1 : (c == 32) = false := by simpa using h32
        have FIN := hide_ (HFIN.out (if_neg (fun h => h32 h.1)))
        clear HFIN HR
        go_wp2
        go_ret
        exact FIN.out
    · have FIN := hide_ (HFIN.out (prsL_short _ _ (by rw [List.length_drop, bl_len]; omega)))
      have c1 : decide ((p : Int) + 2 < (s.size : Int)) = false := decide_eq_false (by omega)
      clear HFIN HR hp
      go_wp2
      go_ret
      exact FIN.out
end Go.Proofs.YtikbegmodacopaaGreatDoor
