/-
  The walk of playpenlaw09's windows, where the slot holds nothing.
-/
import Derived.Test.YtgppbdcnpailaaaWinK
namespace Go.Proofs.Ytgppbdcnpailaaa
open Go.RowKit
set_option linter.unusedVariables false
set_option linter.unusedSimpArgs false

def ansRows (a : AnsV) : List Ro := [byteR a.A a.n a.c a.zs, byteR a.A' a.n a.c' a.zs]
section
variable {W : World} {B q : Nat} {h0 h1 h2 h3 r0 r1 r2 r3 gv kv nv wv : Value} {G : List AnsV} {T : List NoteV} {ex : List Ro}
set_option maxRecDepth 100000 in
set_option maxHeartbeats 2000000 in
theorem windows_none (Bz : Nat) (x : StepV) (hx : StepOk W Bz x) (hBz : Bz ≤ B) (hO : Owns W B (wHead q h0 h1 h2 h3 r0 r1 r2 r3 gv kv nv wv G T ++ ex)) (hB : B ≤ W.heap.size) (hG : G.length ≤ 4398046511104) :
    Calls Try.prog 85 #[.pointer (some ⟨q, 0, none⟩), .agg (stepCells x).toArray, .pointer none, .pointer none] W fun e W' => e = .returned (.bool true) ∧
      (∃ gv' kv' Gn, Owns W' B (wHead q h0 h1 h2 h3 r0 r1 r2 r3 gv' kv' nv wv (G ++ Gn) T ++ (Gn.flatMap ansRows ++ ex)) ∧ Gn.length ≤ 1 ∧ ∀ a ∈ Gn, a.n ≤ 65536) ∧ Below B W W' := by
  obtain ⟨dd, sa, sb, p, v, n, sn, A, l, cc, zs⟩ := x
  obtain ⟨_, _, _, ⟨p0, p1⟩, ⟨v0, v1⟩, ⟨n0, n1⟩, hz, hok', ⟨hlc, hcm⟩⟩ := hx
  simp only at p0 p1 v0 v1 n0 n1 hz hok' hlc hcm
  have hW1 : Below W.heap.size W (W.alloc (.cells (stepCells ⟨dd, sa, sb, p, v, n, sn, A, l, cc, zs⟩).toArray 79)) := (Below.refl _ _).alloc (Nat.le_refl _) _
  have hO1 := hO.box 79 (stepCells ⟨dd, sa, sb, p, v, n, sn, A, l, cc, zs⟩).toArray hB (by simp [stepCells, maxLen])
  have k0 : Blk (W.alloc (.cells (stepCells ⟨dd, sa, sb, p, v, n, sn, A, l, cc, zs⟩).toArray 79)) W.heap.size 79 (stepCells ⟨dd, sa, sb, p, v, n, sn, A, l, cc, zs⟩).toArray := Blk.new W _ _
  obtain ⟨W1, hw⟩ : ∃ W1, W1 = W.alloc (.cells (stepCells ⟨dd, sa, sb, p, v, n, sn, A, l, cc, zs⟩).toArray 79) := ⟨_, rfl⟩
  rw [← hw] at hW1 k0 hO1
  obtain ⟨sr, hsr⟩ : ∃ sr : Ro, sr = stepBox W.heap.size ⟨dd, sa, sb, p, v, n, sn, A, l, cc, zs⟩ := ⟨_, rfl⟩
  have hO2 : Owns W1 B (wHead q h0 h1 h2 h3 r0 r1 r2 r3 gv kv nv wv G T ++ (sr :: ex)) := by
    rw [hsr]
    exact hO1.perm fun cnt one e1 e2 e3 => by simp only [e1, e2, e3, stepBox]; simp only [List.size_toArray, show (stepCells ⟨dd, sa, sb, p, v, n, sn, A, l, cc, zs⟩).length = 8 from rfl]; omega
  have HC : Hid (∀ W2 m, Owns W2 B m → sr ∈ m → W2.cell? ⟨W.heap.size, 3, none⟩ = some (.int .u32 p) ∧ W2.cell? ⟨W.heap.size, 4, none⟩ = some (.int .u32 v) ∧ W2.cell? ⟨W.heap.size, 5, none⟩ = some (.int .i64 n) ∧ W2.cell? ⟨W.heap.size, 7, none⟩ = some (.slice A l cc) ∧ W.heap.size < W2.heap.size) := hide_ fun W2 m h hm => by
    obtain ⟨i, hi⟩ := List.getElem?_of_mem hm
    rw [hsr] at hi
    exact ⟨h.cell (i := i) hi rfl, h.cell (i := i) hi rfl, h.cell (i := i) hi rfl, h.cell (i := i) hi rfl, (h.base (i := i) hi).2⟩
  have c0 : W1.cell? ⟨W.heap.size, 0, none⟩ = some (.int .u8 dd) := k0.cell 0
  have HB := hide_ (hW1.mono hB)
  have HB0 := hide_ hB
  have HB1 := hide_ (Nat.le_trans hB hW1.size)
  have HO := hide_ hO2
  have HG := hide_ hG
  have HZ := hide_ (show ∀ W2, Below B W W2 → Reads W2 Bz 1 A l (u8s zs) from fun W2 h => hz.below (h.mono hBz))
  have HW := hide_ hw
  have hl47 : l ≤ 140737488351232 := by omega
  have hzl : zs.length = l := by simpa using hz.1
  have HZL := hide_ hzl
  obtain ⟨c3, c4, c5, c7, cl⟩ := HC.out W1 _ hO2 (by simp)
  obtain ⟨un, hun⟩ : ∃ un : Nat, IntKind.u32.wrap n = (un : Int) := Int.eq_ofNat_of_zero_le (by simp [IntKind.wrap, IntKind.signed, IntKind.bits]; omega)
  have hlt := hlc
  unfold stepCells at *
  have HFIN : Hid (∀ W2, Owns W2 B (wHead q h0 h1 h2 h3 r0 r1 r2 r3 gv kv nv wv G T ++ (sr :: ex)) → ∃ gv' kv' Gn, Owns W2 B (wHead q h0 h1 h2 h3 r0 r1 r2 r3 gv' kv' nv wv (G ++ Gn) T ++ (Gn.flatMap ansRows ++ ex)) ∧ Gn.length ≤ 1 ∧ ∀ a ∈ Gn, a.n ≤ 65536) := hide_ fun W2 h =>
    ⟨gv, kv, [], by rw [List.append_nil]; exact h.pick [sr] fun cnt one e1 e2 e3 => by simp only [e1, e2, e3, List.flatMap_nil]; omega, by simp, fun a h => by cases h⟩
  have HNIL : Hid (∀ W2, Owns W2 B (wHead q h0 h1 h2 h3 r0 r1 r2 r3 gv kv nv wv G T ++ (sr :: ex)) → Owns W2 B (wHead q h0 h1 h2 h3 r0 r1 r2 r3 gv kv nv wv G T ++ (byteR none 0 0 [] :: byteR none 0 0 [] :: sr :: ex))) := hide_ fun W2 h =>
    ((h.nilrow 5 1).nilrow 5 1).perm fun cnt one e1 e2 e3 => by simp only [e1, e2, e3, byteR, List.map_nil]; omega
  have HFN : Hid (∀ W2 gv' kv', Owns W2 B (wHead q h0 h1 h2 h3 r0 r1 r2 r3 gv' kv' nv wv (G ++ [⟨none, 0, 0, none, 0, []⟩]) T ++ (byteR none 0 0 [] :: byteR none 0 0 [] :: sr :: ex)) → ∃ gv' kv' Gn, Owns W2 B (wHead q h0 h1 h2 h3 r0 r1 r2 r3 gv' kv' nv wv (G ++ Gn) T ++ (Gn.flatMap ansRows ++ ex)) ∧ Gn.length ≤ 1 ∧ ∀ a ∈ Gn, a.n ≤ 65536) := hide_ fun W2 gv' kv' h =>
    ⟨gv', kv', [⟨none, 0, 0, none, 0, []⟩], h.pick [sr] fun cnt one e1 e2 e3 => by simp only [e1, e2, e3, List.flatMap_cons, List.flatMap_nil, ansRows]; omega, by simp, fun a h => by rw [List.mem_singleton.1 h]; exact Nat.zero_le _⟩
  clear k0 hW1 hO1 hO2 hO hB hG hz hw hzl hok'
  rcases (show dd = 8 ∨ dd = 9 ∨ dd = 10 ∨ dd = 11 ∨ (dd ≠ 8 ∧ dd ≠ 9 ∧ dd ≠ 10 ∧ dd ≠ 11) by omega) with rfl | rfl | rfl | rfl | ⟨g8, g9, g10, g11⟩
  · have H1 := hide_ (fun (W2 : World) => Copy_not p v (IntKind.u32.wrap n) (W := W2) (P := none) (.inl rfl))
    have H2 := hide_ (fun (W2 : World) => rCopy_nil p v (IntKind.u32.wrap n) W2)
    have HK : Hid (∀ W2, Below W1.heap.size W1 W2 → W2.cell? ⟨W.heap.size, 3, none⟩ = some (.int .u32 p) ∧ W2.cell? ⟨W.heap.size, 4, none⟩ = some (.int .u32 v) ∧ W2.cell? ⟨W.heap.size, 5, none⟩ = some (.int .i64 n) ∧ Below W1.heap.size W1 W2) := hide_ fun W2 h =>
      ⟨(h.cell (p := ⟨W.heap.size, 3, none⟩) cl).trans c3, (h.cell (p := ⟨W.heap.size, 4, none⟩) cl).trans c4, (h.cell (p := ⟨W.heap.size, 5, none⟩) cl).trans c5, h⟩
    clear hun
    go_enter Try.func85, Try.ntmps85
    go_wp2_with fail
    rw [← HW.out]
    go_wp2_with fail
    go_region_held3 (fun W' => W'.cell? ⟨W.heap.size, 3, none⟩ = some (.int .u32 p) ∧ W'.cell? ⟨W.heap.size, 4, none⟩ = some (.int .u32 v) ∧ W'.cell? ⟨W.heap.size, 5, none⟩ = some (.int .i64 n) ∧ Below W1.heap.size W1 W')
      (first | exact HK.out _ (Below.refl _ _).drew | exact HK.out _ HB9.out)
      ((first
        | (go_at_call 44; go_split_ands; refine (H1.out _).mono ?_; rintro e w9 ⟨rfl, hb9⟩; have hbq : Below W1.heap.size W1 w9 := bst (by assumption) hb9; have HB9 := hide_ hbq; clear hb9 hbq)
        | (go_at_call 122; refine (H2.out _).mono ?_; rintro e w8 ⟨rfl, hw8⟩; subst w8)))
    go_wp2
    go_ret
    exact ⟨rfl, HFIN.out _ (HO.out.below HB9.out), HB.out.trans (HB9.out.mono HB1.out)⟩
  · have H1 := hide_ (fun (W2 : World) => Read_not p n (W := W2) (P := none) (.inl rfl))
    have H2 := hide_ (fun (W2 : World) => rRead_nil p n W2)
    go_enter Try.func85, Try.ntmps85
    go_wp2_with fail
    rw [← HW.out]
    go_wp2_with fail
    refine (H1.out _).mono ?_
    rintro e w9 ⟨rfl, hb9⟩
    have hO9 := HO.out.below hb9
    have hBB9 := HB.out.trans (hb9.mono HB1.out)
    have hBy := hide_ (bytes_any none 0 0 none 0 [] (HNIL.out _ hO9) (Nat.le_trans HB0.out hBB9.size) (by simp) (by simp) (by omega) HG.out)
    obtain ⟨d3, d4, d5, d7, dl⟩ := HC.out w9 _ hO9 (by simp)
    have HB9 := hide_ hBB9
    clear hb9 hO9 hBB9
    go_wp2_with fail
    refine (H2.out _).mono ?_
    rintro e w8 ⟨rfl, hw8⟩
    subst w8
    go_wp2_with fail
    refine hBy.out.mono ?_
    rintro e w7 ⟨rfl, gv', kv', hO7, hb7⟩
    have HO7 := hide_ (HFN.out _ _ _ hO7)
    have HB7 := hide_ (HB9.out.trans hb7)
    clear hO7 hb7 hBy
    go_wp2
    go_ret
    exact ⟨by simp, HO7.out, HB7.out⟩
  · have HL1 := hide_ (lent_rows A l cc Bz zs HO.out HB1.out (HZ.out _ HB.out) (Nat.le_trans hBz HB1.out) hl47)
    have H1 := hide_ (fun (W2 : World) (f cf : Nat) => Write_not p (some ⟨f, 0, none⟩) l cf (W := W2) (P := none) (.inl rfl))
    have H2 := hide_ (fun (W2 : World) => rWrite_nil p A l cc W2)
    go_enter Try.func85, Try.ntmps85
    go_wp2_with fail
    rw [← HW.out]
    go_wp2_with fail
    refine HL1.out.mono ?_
    rintro e w5 ⟨f, cf, rfl, hfc, hO5, hb5⟩
    have hB5 := HB.out.trans (hb5.mono HB1.out)
    obtain ⟨d3, d4, d5, d7, dl⟩ := HC.out w5 _ hO5 (by simp)
    have HK : Hid (∀ W2, Below w5.heap.size w5 W2 → W2.cell? ⟨W.heap.size, 3, none⟩ = some (.int .u32 p) ∧ W2.cell? ⟨W.heap.size, 7, none⟩ = some (.slice A l cc) ∧ Below w5.heap.size w5 W2) := hide_ fun W2 h =>
      ⟨(h.cell (p := ⟨W.heap.size, 3, none⟩) dl).trans d3, (h.cell (p := ⟨W.heap.size, 7, none⟩) dl).trans d7, h⟩
    have i0 : (0 : Int) ≤ (l : Int) := by omega
    have i1 : (l : Int) ≤ (cf : Int) := by omega
    have HO5 := hide_ hO5
    have HB5 := hide_ hB5
    have HB5s := hide_ (Nat.le_trans HB0.out hB5.size)
    clear hO5 hb5 hB5 HL1
    go_wp2_with fail
    go_region_held3 (fun W' => W'.cell? ⟨W.heap.size, 3, none⟩ = some (.int .u32 p) ∧ W'.cell? ⟨W.heap.size, 7, none⟩ = some (.slice A l cc) ∧ Below w5.heap.size w5 W')
      (first | exact HK.out _ (Below.refl _ _).drew | exact HK.out _ HB9.out)
      ((go_at_call 42; go_split_ands; refine (H1.out _ f cf).mono ?_; rintro e w9 ⟨rfl, hb9⟩; have hbq : Below w5.heap.size w5 w9 := bst (by assumption) hb9; have HB9 := hide_ hbq; clear hb9 hbq))
    have hO9 := HO5.out.below HB9.out
    have hB9 := HB5.out.trans (HB9.out.mono HB5s.out)
    obtain ⟨t3, t4, t5, t7, tl⟩ := HC.out w9 _ hO9 (by simp)
    have hKp : Hid (Calls Try.prog 71 #[.slice (some ⟨f, 0, none⟩) (l + 64) cf, .slice A l cc] w9 fun e w' => e = .returned (.bool true) ∧ ∃ nq, w' = w9.drewN nq) := hide_ ((KeptBytes_any (some ⟨f, 0, none⟩) A (l + 64) cf l cc (zs ++ marks8 0 0 64) zs w9.heap.size w9 (Reads.of_own (hO9.at_ (i := 0) rfl)) ((HZ.out _ hB9).more (Nat.le_trans hBz (Nat.le_trans HB0.out hB9.size))) (by simp only [maxLen]; omega) (by simp only [maxLen]; omega)).mono fun e w' h => ⟨by rw [h.1]; simp, h.2⟩)
    have HO9 := hide_ hO9
    have HBB9 := hide_ hB9
    clear hO9 hB9
    go_wp2_with fail
    refine hKp.out.mono ?_
    rintro e w6 ⟨rfl, nq, rfl⟩
    go_wp2_with fail
    refine (H2.out _).mono ?_
    rintro e w8 ⟨rfl, hw8⟩
    subst w8
    have hOv := hide_ (over_rows (HO9.out.drewN nq) (Nat.le_trans HB0.out HBB9.out.size) (by simp only [maxLen]; omega))
    go_wp2_with fail
    refine hOv.out.mono ?_
    rintro e w7 ⟨rfl, hO7, hb7⟩
    have HO7 := hide_ (HFIN.out _ hO7)
    have HB7 := hide_ ((below_draws2 HBB9.out nq).trans hb7)
    clear hO7 hb7 hOv
    go_wp2
    go_ret
    exact ⟨rfl, HO7.out, HB7.out⟩
  · have H1 := hide_ (fun (W2 : World) => Bytes_not (W := W2) (P := none) (.inl rfl))
    have H2 := hide_ (fun (W2 : World) => rAll_nil W2)
    go_enter Try.func85, Try.ntmps85
    go_wp2_with fail
    rw [← HW.out]
    go_wp2_with fail
    refine (H1.out _).mono ?_
    rintro e w9 ⟨rfl, hb9⟩
    have hO9 := HO.out.below hb9
    have hBB9 := HB.out.trans (hb9.mono HB1.out)
    have hBy := hide_ (bytes_any none 0 0 none 0 [] (HNIL.out _ hO9) (Nat.le_trans HB0.out hBB9.size) (by simp) (by simp) (by omega) HG.out)
    have HB9 := hide_ hBB9
    clear hb9 hO9 hBB9
    go_wp2_with fail
    refine (H2.out _).mono ?_
    rintro e w8 ⟨rfl, hw8⟩
    subst w8
    go_wp2_with fail
    refine hBy.out.mono ?_
    rintro e w7 ⟨rfl, gv', kv', hO7, hb7⟩
    have HO7 := hide_ (HFN.out _ _ _ hO7)
    have HB7 := hide_ (HB9.out.trans hb7)
    clear hO7 hb7 hBy
    go_wp2
    go_ret
    exact ⟨by simp, HO7.out, HB7.out⟩
  · have e8 : (dd == 8) = false := by simp [g8]
    have e9 : (dd == 9) = false := by simp [g9]
    have e10 : (dd == 10) = false := by simp [g10]
    have e11 : (dd == 11) = false := by simp [g11]
    clear g8 g9 g10 g11
    go_enter Try.func85, Try.ntmps85
    go_wp2_with fail
    rw [← HW.out]
    go_wp2
    go_ret
    exact ⟨rfl, HFIN.out _ HO.out, HB.out⟩
end
end Go.Proofs.Ytgppbdcnpailaaa
