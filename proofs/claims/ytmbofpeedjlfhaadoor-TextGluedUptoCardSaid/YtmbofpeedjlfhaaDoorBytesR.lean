/-
  The walk of the document's Bytes.
-/
import Derived.Test.YtmbofpeedjlfhaaDoorBytesW
namespace Go.Proofs.YtmbofpeedjlfhaaDoor
open Go.RowKit Go.PlainAid Go.Shelf

theorem rbytes_0 (w : World) : Calls Tryd.prog 96 #[.string ⟨#[]⟩] w (BytesIs (none, 0, 11) w) := by
  go_enter Tryd.func96, Tryd.ntmps96
  go_wp2
  go_ret3
  exact ⟨_, rfl, World.ownsRow_nil _ _ _ _, Below.refl _ _⟩
set_option maxHeartbeats 1000000 in
theorem rbytes_1 (s : ByteArray) (w : World) (h0 : 0 < s.size) (h1 : bt s 0 ≠ 34) : Calls Tryd.prog 96 #[.string s] w (BytesIs (none, 0, 11) w) := by
  have hbt := get_bt s
  have e0 : ((s.size : Int) == 0) = false := by rw [beq_eq_false_iff_ne]; omega
  have h2 : (bt s 0 != 34) = true := bne_iff_ne.2 h1
  clear h1
  go_enter Tryd.func96, Tryd.ntmps96
  go_wp2
  go_ret3
  exact ⟨_, rfl, World.ownsRow_nil _ _ _ _, Below.refl _ _⟩
set_option maxRecDepth 100000 in
set_option maxHeartbeats 1000000 in
theorem rbytes_2 (s : ByteArray) (w : World) (hz : s.size ≤ 140737488351232) (h0 : 0 < s.size) (h1 : bt s 0 = 34) : Calls Tryd.prog 96 #[.string s] w (BytesIs (bytesAt s s.size 1) w) := by
  obtain ⟨i0, hi, hz0, hz1, hz2⟩ := info_parts bld_u8
  have hbt := get_bt s
  have e0 : ((s.size : Int) == 0) = false := by rw [beq_eq_false_iff_ne]; omega
  have e00 : (bt s 0 != 34) = false := by rw [h1]; rfl
  obtain ⟨X, hX⟩ : ∃ X, X = bytesAt s s.size 1 := ⟨_, rfl⟩
  rw [← hX]
  go_enter Tryd.func96, Tryd.ntmps96
  go_wp2
  go_loopw [5, 6] (fun v i wr => ∃ (pos f : Nat) (acc : List Int), i = .int .i64 pos ∧ pos ≤ s.size + 6 ∧ s.size ≤ pos + f ∧ acc.length ≤ pos ∧ Hid (X = addTo acc (bytesAt s f pos)) ∧
      wr.ownsRow w.heap.size 5 1 v acc.length (u8s acc) ∧ Below w.heap.size w wr) (fun _ i _ => s.size + 8 - (intOf i).toNat)
  case atStart =>
    exact ⟨1, s.size, [], rfl, by omega, by omega, by simp, hide_ (by rw [hX, addTo_nil]), World.ownsRow_nil _ _ _ _, Below.refl _ _⟩
  case round =>
    obtain ⟨pos, f, acc, rfl, hp6, hpf, hal, HX, hown, hb⟩ := hrel
    have hsz := hb.size
    obtain ⟨A0, c0, rfl, hc0, hc1⟩ := ownsRow_slice hown
    by_cases hlt : pos < s.size
    · have hbe := bt_eq s pos hlt
      obtain ⟨f, rfl⟩ : ∃ f', f = f' + 1 := ⟨f - 1, by omega⟩
      by_cases h34 : bn s pos = 34
      · have hcall := fun W => thing_shut s pos 34 W (by omega) hlt (by omega)
        have hX2 := HX.out
        rw [bytesAt, if_neg (by omega), if_pos h34] at hX2
        have HCALL := hide_ hcall
        clear hbe h34 hcall
        by_cases hend : pos + 1 < s.size
        · rw [if_pos hend] at hX2
          have HX2 := hide_ hX2
          clear hX2 hX
          go_wp2_with (go_at_call 105; refine (HCALL.out _).mono ?_)
          rintro e w1 ⟨rfl, hb1⟩
          go_wp2
          go_ret3
          rw [HX2.out]
          exact ⟨_, rfl, World.ownsRow_nil _ _ _ _, hb.trans (hb1.mono hsz)⟩
        · rw [if_neg hend] at hX2
          have HX2 := hide_ hX2
          clear hX2 hX
          go_wp2_with (go_at_call 105; refine (HCALL.out _).mono ?_)
          rintro e w1 ⟨rfl, hb1⟩
          go_wp2
          go_ret3
          rw [HX2.out]
          refine ⟨_, rfl, ?_, hb.trans (hb1.mono hsz)⟩
          have := ((one_row (r := ⟨5, 1, .slice A0 acc.length c0, acc.length, u8s acc⟩) hown).below hb1).at_ (i := 0) rfl
          simpa [addTo] using this
      · have hgood := sayN_good s pos hlt
        have hstep := bytesAt_step s f pos hlt h34
        have hX2 := HX.out
        rw [bytesAt, if_neg (by omega), if_neg h34] at hX2
        have hcall := fun W => thing_any s pos 34 W (by omega) hlt (by omega)
        obtain ⟨⟨c, b, k, er⟩, hN⟩ : ∃ x, sayN s pos = x := ⟨_, rfl⟩
        simp only [hN] at hgood hstep hX2 hcall
        have e9 : ((pos + k : Nat) : Int) = (pos : Int) + (k : Int) := by omega
        simp only [e9] at hcall
        clear hbe h34 hN e9
        by_cases he : er = 0
        · subst he
          obtain ⟨k1, k6, hzl, hzb, _, _⟩ := hgood rfl
          have HS := hide_ (show X = addTo (acc ++ sayZ s pos) (bytesAt s f (pos + k)) by rw [HX.out]; exact hstep rfl acc)
          have HCALL := hide_ hcall
          obtain ⟨Z, hZ⟩ : ∃ Z, Z = sayZ s pos := ⟨_, rfl⟩
          rw [← hZ] at HS hzl hzb
          clear hcall hgood hstep hX2 hX HX hZ
          go_wp2_with (go_at_call 105; refine (HCALL.out _).mono ?_; rintro e w1 ⟨T, hT, rfl, hb1⟩)
          obtain ⟨hT1, hT2⟩ := hT (by trivial)
          have hTZ : T.size = Z.length := by rw [hT1, hzb, List.length_map]
          have HTB := hide_ (show ∀ j, j < T.size → bt T j = Z[j]?.getD 0 from fun j hj => by
            have hj2 : j < (sayB s pos).length := by rw [← hT1]; exact hj
            rw [bt_eq T j hj, hT2 j hj2, hzb, List.getElem?_map, List.getElem?_eq_getElem hj2]
            rfl)
          have HTZ := hide_ hTZ
          have hTs : T.size ≤ 6 := by omega
          have hO1 := (one_row (r := ⟨5, 1, .slice A0 acc.length c0, acc.length, u8s acc⟩) hown).below hb1
          have hB1 : Below w.heap.size w w1 := hb.trans (hb1.mono hsz)
          obtain ⟨a, haa⟩ : ∃ a, a = acc.length := ⟨_, rfl⟩
          have HA := hide_ haa
          rw [← haa] at hO1 hal ⊢
          clear hT hT1 hT2 hzb hTZ hown haa
          go_loopw [5, 12] (fun v i wr => ∃ j : Nat, j ≤ T.size ∧ i = .int .i64 j ∧ Owns wr w.heap.size [⟨5, 1, v, a + j, u8s (acc ++ Z.take j)⟩] ∧ Below w.heap.size w wr) (fun _ i _ => T.size - (intOf i).toNat)
          case atStart => exact ⟨0, Nat.zero_le _, rfl, by simpa using hO1, hB1⟩
          case round =>
            obtain ⟨j, hj, rfl, hO2, hb2⟩ := hrel
            obtain ⟨A4, c4, hv4, _, _⟩ := ownsRow_slice (hO2.at_ (i := 0) rfl)
            simp only at hv4
            subst hv4
            have hsz2 := hb2.size
            by_cases hlt3 : j < T.size
            · have hbt2 := get_bt T
              have hy := HTB.out j hlt3
              obtain ⟨y, hyy⟩ : ∃ y, y = Z[j]?.getD 0 := ⟨_, rfl⟩
              rw [← hyy] at hy
              have HT := hide_ (show Z.take (j + 1) = Z.take j ++ [y] by rw [take_snoc Z 0 j (by rw [← HTZ.out]; exact hlt3), ← hyy])
              clear hyy
              go_wp2_with (at_builtin; refine wpList_append_owns _ rfl (.tmp 51) (.tmp 55) 51 rfl w.heap.size _ 0 5 1 _ (a + j) _ rfl (hO2.alloc _) (by simp; omega) i0 _ 1 Tryd.underlying51 hi hz0 hz1 hz2 rfl (by omega) rfl _ _ 1 1 _ rfl (reads_new wr 5 1 1 [.int .u8 y] rfl) (by simp [Value.oneCell']) (by simp only [maxLen]; omega) (by omega) ?_; intro v6 w6 hO6 hb6 hsz6)
              go_roundw
              case rel =>
                refine ⟨j + 1, by omega, by go_num, ?_, (hb2.alloc (by omega) _).trans hb6⟩
                rw [HT.out, ← List.append_assoc]
                simpa [u8s, Nat.add_assoc] using hO6
              case measure => simp [intOf]; omega
            · obtain rfl : j = T.size := by omega
              have HT := hide_ (show Z.take T.size = Z by rw [HTZ.out]; exact List.take_length)
              rw [HT.out] at hO2
              go_wp2
              go_roundw
              case rel =>
                refine ⟨pos + k, f, acc ++ Z, by go_num, by omega, by omega, by rw [List.length_append, ← HA.out, ← HTZ.out]; rw [HTZ.out]; omega, HS, ?_, hb2⟩
                have := hO2.at_ (i := 0) rfl
                simpa [HA.out, HTZ.out] using this
              case measure => simp [intOf]; omega
        · rw [if_pos he] at hX2
          have HX2 := hide_ hX2
          have HCALL := hide_ hcall
          have d2 : (er != 0) = true := bne_iff_ne.2 he
          clear hcall hgood hstep hX2 hX he
          go_wp2_with (go_at_call 105; refine (HCALL.out _).mono ?_)
          rintro e w1 ⟨T, _, rfl, hb1⟩
          go_wp2
          go_ret3
          rw [HX2.out]
          exact ⟨_, rfl, World.ownsRow_nil _ _ _ _, hb.trans (hb1.mono hsz)⟩
    · have hX2 := HX.out
      rw [bytesAt_end s f pos (by omega)] at hX2
      have HX2 := hide_ hX2
      clear hX2 hX
      go_wp2
      go_ret3
      rw [HX2.out]
      exact ⟨_, rfl, World.ownsRow_nil _ _ _ _, hb⟩
theorem rbytes_any (s : ByteArray) (w : World) (hz : s.size ≤ 140737488351232) : Calls Tryd.prog 96 #[.string s] w (BytesIs (bytesN s) w) := by
  unfold bytesN
  by_cases h0 : s.size = 0
  · obtain rfl := is_empty s h0
    rw [if_pos h0]
    exact rbytes_0 w
  rw [if_neg h0]
  have hb := bt_eq s 0 (by omega)
  by_cases h1 : bn s 0 ≠ 34
  · rw [if_pos h1]
    exact rbytes_1 s w (by omega) (by omega)
  · rw [if_neg h1]
    exact rbytes_2 s w hz (by omega) (by omega)
end Go.Proofs.YtmbofpeedjlfhaaDoor
