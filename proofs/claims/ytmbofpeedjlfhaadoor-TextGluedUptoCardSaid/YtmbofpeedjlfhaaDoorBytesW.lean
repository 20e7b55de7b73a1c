/-
  The walk of text.Bytes.
-/
import Derived.Test.YtmbofpeedjlfhaaDoorBytesP
import Derived.Test.YtmbofpeedjlfhaaDoorKitIn
namespace Go.Proofs.YtmbofpeedjlfhaaDoor
open Go.RowKit Go.PlainAid Go.Shelf

abbrev BytesIs (x : Option (List Int) × Int × Int) (w : World) (e : Ending) (w' : World) : Prop :=
  ∃ v, e = .returned (.tuple #[v, .int .i64 x.2.1, .int .i64 x.2.2]) ∧ w'.ownsRow w.heap.size 5 1 v (x.1.getD []).length (u8s (x.1.getD [])) ∧ Below w.heap.size w w'
theorem one_row {w : World} {B : Nat} {r : Ro} (h : w.ownsRow B r.e r.size r.v r.n r.xs) : Owns w B [r] := ⟨fun q hq => by rw [List.mem_singleton.1 hq]; exact h, List.pairwise_singleton _ _⟩
theorem tbytes_0 (w : World) : Calls Tryd.prog 24 #[.string ⟨#[]⟩] w (BytesIs (none, 0, 11) w) := by
  go_enter Tryd.func24, Tryd.ntmps24
  go_wp2
  go_ret3
  exact ⟨_, rfl, World.ownsRow_nil _ _ _ _, Below.refl _ _⟩
set_option maxHeartbeats 1000000 in
theorem tbytes_1 (s : ByteArray) (w : World) (h0 : 0 < s.size) (h1 : bt s 0 ≠ 34) : Calls Tryd.prog 24 #[.string s] w (BytesIs (none, 0, 11) w) := by
  have hbt := get_bt s
  have hne := not_empty s h0
  have h2 : (bt s 0 != 34) = true := bne_iff_ne.2 h1
  clear h1
  go_enter Tryd.func24, Tryd.ntmps24
  go_wp2
  go_ret3
  exact ⟨_, rfl, World.ownsRow_nil _ _ _ _, Below.refl _ _⟩
set_option maxRecDepth 100000 in
set_option maxHeartbeats 1000000 in
theorem tbytes_2 (s : ByteArray) (w : World) (hz : s.size ≤ 140737488351232) (h0 : 0 < s.size) (h1 : bt s 0 = 34) : Calls Tryd.prog 24 #[.string s] w (BytesIs (bytesAt s s.size 1) w) := by
  obtain ⟨i0, hi, hz0, hz1, hz2⟩ := info_parts bld_u8
  have hbt := get_bt s
  have hne := not_empty s h0
  obtain ⟨X, hX⟩ : ∃ X, X = bytesAt s s.size 1 := ⟨_, rfl⟩
  rw [← hX]
  go_enter Tryd.func24, Tryd.ntmps24
  go_wp2
  go_loopw [5, 6] (fun v i wr => ∃ (pos f : Nat) (acc : List Int), i = .int .i64 pos ∧ pos ≤ s.size + 6 ∧ s.size ≤ pos + f ∧ acc.length ≤ pos ∧ Hid (X = addTo acc (bytesAt s f pos)) ∧
      wr.ownsRow w.heap.size 5 1 v acc.length (u8s acc) ∧ Below w.heap.size w wr) (fun _ i _ => s.size + 8 - (intOf i).toNat)
  case atStart =>
    exact ⟨1, s.size, [], rfl, by omega, by omega, by simp, hide_ (by rw [hX, addTo_nil]), World.ownsRow_nil _ _ _ _, Below.refl _ _⟩
  case round =>
    obtain ⟨pos, f, acc, rfl, hp6, hpf, hal, HX, hown, hb⟩ := hrel
    have hsz := hb.size
    by_cases hlt : pos < s.size
    · have hbe := bt_eq s pos hlt
      obtain ⟨f, rfl⟩ : ∃ f', f = f' + 1 := ⟨f - 1, by omega⟩
      by_cases h34 : bn s pos = 34
      · have d1 : (bt s pos == 34) = true := by rw [beq_iff_eq]; omega
        have hX2 := HX.out
        rw [bytesAt, if_neg (by omega), if_pos h34] at hX2
        clear hbe h34
        by_cases hend : pos + 1 < s.size
        · rw [if_pos hend] at hX2
          have HX2 := hide_ hX2
          clear hX2 hX
          go_wp2
          go_ret3
          rw [HX2.out]
          exact ⟨_, rfl, World.ownsRow_nil _ _ _ _, hb⟩
        · rw [if_neg hend] at hX2
          have HX2 := hide_ hX2
          clear hX2 hX
          go_wp2
          go_ret3
          rw [HX2.out]
          exact ⟨_, rfl, by simpa [addTo] using hown, hb⟩
      · have d1 : (bt s pos == 34) = false := by rw [beq_eq_false_iff_ne]; omega
        have hgood := sayN_good s pos hlt
        have hstep := bytesAt_step s f pos hlt h34
        have hX2 := HX.out
        rw [bytesAt, if_neg (by omega), if_neg h34] at hX2
        have hcall := fun W => say_any s pos W hlt
        have hZ : sayZ s pos = if (sayN s pos).2.1 then [(sayN s pos).1] else Lib.encodeRuneZ (sayN s pos).1 := rfl
        obtain ⟨⟨c, b, k, er⟩, hN⟩ : ∃ x, sayN s pos = x := ⟨_, rfl⟩
        simp only [hN] at hgood hstep hX2 hcall hZ
        clear hbe h34 hN
        by_cases he : er = 0
        · subst he
          obtain ⟨k1, k6, hzl, _, hby, hru⟩ := hgood rfl
          have HS := hide_ (show X = addTo (acc ++ sayZ s pos) (bytesAt s f (pos + k)) by rw [HX.out]; exact hstep rfl acc)
          have HCALL := hide_ hcall
          clear hcall hgood hstep hX2 hX HX
          obtain ⟨A0, c0, rfl, hc0, hc1⟩ := ownsRow_slice hown
          cases b with
          | true =>
            obtain ⟨hc0', hc256⟩ := hby rfl
            have hZ1 : sayZ s pos = [c] := by rw [hZ]; rfl
            have p1 : c % 256 = c := by omega
            have HS2 := hide_ (show X = addTo (acc ++ [c]) (bytesAt s f (pos + k)) by rw [← hZ1]; exact HS.out)
            clear HS hZ hZ1 hby hru hzl
            go_wp2_with (go_at_call 42; refine (HCALL.out _).mono ?_)
            rintro e w1 ⟨rfl, hb1⟩
            have hO1 : Owns w1 w.heap.size [⟨5, 1, .slice A0 acc.length c0, acc.length, u8s acc⟩] := (one_row hown).below hb1
            have hO2 := hO1.box 79 #[.int .i32 c, .bool true, .int .i64 k] (by have := hb1.size; omega) (show 3 ≤ maxLen by unfold maxLen; decide)
            have hB1 : Below w.heap.size w w1 := hb.trans (hb1.mono hsz)
            go_wp2_with (at_builtin; refine wpList_append_owns _ rfl (.tmp 44) (.tmp 48) 51 rfl w.heap.size _ 0 5 1 _ acc.length _ rfl (hO2.alloc _) (by have := hb1.size; simp; omega) i0 _ 1 Tryd.underlying51 hi hz0 hz1 hz2 rfl (by omega) rfl _ _ 1 1 _ rfl (reads_at (w1.alloc (.cells #[.int .i32 c, .bool true, .int .i64 k] 79)) 5 1 1 [.int .u8 c] rfl (w1.heap.size + 1) (by simp)) (by simp [Value.oneCell']) (by simp only [maxLen]; omega) (by omega) ?_)
            intro v2 w2 hO3 hb2 hsz2
            have ck : w2.cell? ⟨w1.heap.size, 2, none⟩ = some (.int .i64 k) := hO3.cell (i := 1) rfl rfl
            go_wp2
            go_roundw
            case rel =>
              refine ⟨pos + k, f, acc ++ [c], by go_num, by omega, by omega, by simp; omega, HS2, ?_, ?_⟩
              · simpa [u8s] using hO3.at_ (i := 0) rfl
              · exact ((hB1.alloc hB1.size _).alloc (by simp; have := hB1.size; omega) _).trans hb2
            case measure => simp [intOf]; omega
          | false =>
            obtain ⟨v, rfl, hvr⟩ := hru rfl
            have hZ1 : sayZ s pos = Lib.encodeRuneZ (v : Int) := by rw [hZ]; rfl
            have hv0 : (v : Int) ≤ 1114111 := by have := hvr.1; omega
            have HS2 := hide_ (show X = addTo (acc ++ Lib.encodeRuneZ (v : Int)) (bytesAt s f (pos + k)) by rw [← hZ1]; exact HS.out)
            rw [hZ1] at hzl
            clear HS hZ hZ1 hby hru
            go_wp2_with (go_at_call 42; refine (HCALL.out _).mono ?_)
            rintro e w1 ⟨rfl, hb1⟩
            have hO1 : Owns w1 w.heap.size [⟨5, 1, .slice A0 acc.length c0, acc.length, u8s acc⟩] := (one_row hown).below hb1
            have hO2 := hO1.alloc (.cells #[.int .i32 v, .bool false, .int .i64 k] 79)
            have hB1 : Below w.heap.size w w1 := hb.trans (hb1.mono hsz)
            have hBk := Blk.new w1 79 #[.int .i32 v, .bool false, .int .i64 k]
            go_wp2_with (go_at_call 43; refine (Tryd.utf8_AppendRune_plain w.heap.size (.slice A0 acc.length c0) acc.length (u8s acc) (v : Int) (by omega) (by omega) _ (hO2.at_ (i := 0) rfl) (by omega) (by have := hb1.size; simp; omega)).mono ?_)
            rintro e w2 ⟨v2, rfl, hown2, o, hg2⟩
            have hBk2 : Blk w2 w1.heap.size 79 #[.int .i32 v, .bool false, .int .i64 k] := (hBk.alloc o).grown hg2 (fun e => own_blk_ne (hO2.at_ (i := 0) rfl) hBk (show (5 : TypeId) ≠ 79 by decide) e.symm)
            have ck : w2.cell? ⟨w1.heap.size, 2, none⟩ = some (.int .i64 k) := hBk2.cell 2
            have hb2 : Below w.heap.size w w2 := ((hB1.alloc hB1.size _).alloc (by simp; have := hB1.size; omega) _).grown hg2 (by simp; have := hB1.size; omega) (fun j hj => ((hO2.at_ (i := 0) rfl).lt j hj).1)
            go_wp2
            go_roundw
            case rel =>
              refine ⟨pos + k, f, acc ++ Lib.encodeRuneZ (v : Int), by go_num, by omega, by omega, by simp; omega, HS2, ?_, hb2⟩
              simpa [u8s, Lib.runeCells] using hown2
            case measure => simp [intOf]; omega
        · rw [if_pos he] at hX2
          have HX2 := hide_ hX2
          have HCALL := hide_ hcall
          have d2 : (er != 0) = true := bne_iff_ne.2 he
          clear hcall hgood hstep hX2 hX he hZ
          go_wp2_with (go_at_call 42; refine (HCALL.out _).mono ?_)
          rintro e w1 ⟨rfl, hb1⟩
          go_wp2
          go_ret3
          rw [HX2.out]
          exact ⟨_, rfl, World.ownsRow_nil _ _ _ _, (hb.trans (hb1.mono hsz)).alloc (by have := hb1.size; omega) _⟩
    · have hX2 := HX.out
      rw [bytesAt_end s f pos (by omega)] at hX2
      have HX2 := hide_ hX2
      clear hX2 hX
      go_wp2
      go_ret3
      rw [HX2.out]
      exact ⟨_, rfl, World.ownsRow_nil _ _ _ _, hb⟩
theorem tbytes_any (s : ByteArray) (w : World) (hz : s.size ≤ 140737488351232) : Calls Tryd.prog 24 #[.string s] w (BytesIs (bytesN s) w) := by
  unfold bytesN
  by_cases h0 : s.size = 0
  · obtain rfl := is_empty s h0
    rw [if_pos h0]
    exact tbytes_0 w
  rw [if_neg h0]
  have hb := bt_eq s 0 (by omega)
  by_cases h1 : bn s 0 ≠ 34
  · rw [if_pos h1]
    exact tbytes_1 s w (by omega) (by omega)
  · rw [if_neg h1]
    exact tbytes_2 s w hz (by omega) (by omega)
end Go.Proofs.YtmbofpeedjlfhaaDoor
