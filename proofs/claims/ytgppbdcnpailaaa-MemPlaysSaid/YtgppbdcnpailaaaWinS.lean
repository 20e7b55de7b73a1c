/-
  The walk of playpenlaw09's windows, where the slot holds a segment.
-/
import Derived.Test.YtgppbdcnpailaaaWinN
namespace Go.Proofs.Ytgppbdcnpailaaa
open Go.RowKit
set_option linter.unusedVariables false
set_option linter.unusedSimpArgs false

section
variable {W : World} {B q : Nat} {h0 h1 h2 h3 r0 r1 r2 r3 gv kv nv wv : Value} {G : List AnsV} {T : List NoteV} {g d c r b rc N : Nat} {on : Bool} {ts : List (Int × Bool)} {xs : List Int} {tv lv : Value} {ex : List Ro}
/-- the segments beside one another, the world, what was answered -/
def WinPost (W' : World) (B q : Nat) (h0 h1 h2 h3 r0 r1 r2 r3 nv wv : Value) (G : List AnsV) (T : List NoteV) (g d c r b rc N : Nat) (ex : List Ro) : Prop :=
  ∃ gv' kv' Gn on tv lv ts xs, Owns W' B (memRows g d N c on tv ts xs ++ (refRows r b N rc on lv ts xs ++ (wHead q h0 h1 h2 h3 r0 r1 r2 r3 gv' kv' nv wv (G ++ Gn) T ++ (Gn.flatMap ansRows ++ ex)))) ∧ Gn.length ≤ 1 ∧ (∀ a ∈ Gn, a.n ≤ 65536) ∧ xs.length = N ∧ bytesOk xs ∧ ts.length ≤ 65536
set_option maxRecDepth 100000 in
set_option maxHeartbeats 4000000 in
theorem windows_s8 (Bz : Nat) (x : StepV) (hd : x.d = 8) (hx : StepOk W Bz x) (hBz : Bz ≤ B) (hO : Owns W B (memRows g d N c on tv ts xs ++ (refRows r b N rc on lv ts xs ++ (wHead q h0 h1 h2 h3 r0 r1 r2 r3 gv kv nv wv G T ++ ex)))) (hB : B ≤ W.heap.size) (hG : G.length ≤ 4398046511104) (hN : IsSeg N) (hl : xs.length = N) (hok : bytesOk xs) (ht : ts.length ≤ 65536) :
    Calls Try.prog 85 #[.pointer (some ⟨q, 0, none⟩), .agg (stepCells x).toArray, .pointer (some ⟨g, 0, none⟩), .pointer (some ⟨r, 0, none⟩)] W fun e W' => e = .returned (.bool true) ∧
      WinPost W' B q h0 h1 h2 h3 r0 r1 r2 r3 nv wv G T g d c r b rc N ex ∧ Below B W W' := by
  obtain ⟨dd, sa, sb, p, v, n, sn, A, l, cc, zs⟩ := x
  obtain ⟨_, _, _, ⟨p0, p1⟩, ⟨v0, v1⟩, ⟨n0, n1⟩, hz, hok', ⟨hlc, hcm⟩⟩ := hx
  simp only at hd
  subst hd
  simp only at p0 p1 v0 v1 n0 n1 hz hok' hlc hcm
  have hW1 : Below W.heap.size W (W.alloc (.cells (stepCells ⟨8, sa, sb, p, v, n, sn, A, l, cc, zs⟩).toArray 79)) := (Below.refl _ _).alloc (Nat.le_refl _) _
  have hO1 := hO.box 79 (stepCells ⟨8, sa, sb, p, v, n, sn, A, l, cc, zs⟩).toArray hB (by simp [stepCells, maxLen])
  have k0 : Blk (W.alloc (.cells (stepCells ⟨8, sa, sb, p, v, n, sn, A, l, cc, zs⟩).toArray 79)) W.heap.size 79 (stepCells ⟨8, sa, sb, p, v, n, sn, A, l, cc, zs⟩).toArray := Blk.new W _ _
  obtain ⟨W1, hw⟩ : ∃ W1, W1 = W.alloc (.cells (stepCells ⟨8, sa, sb, p, v, n, sn, A, l, cc, zs⟩).toArray 79) := ⟨_, rfl⟩
  rw [← hw] at hW1 k0 hO1
  obtain ⟨sr, hsr⟩ : ∃ sr : Ro, sr = stepBox W.heap.size ⟨8, sa, sb, p, v, n, sn, A, l, cc, zs⟩ := ⟨_, rfl⟩
  have hO2 : Owns W1 B (memRows g d N c on tv ts xs ++ (refRows r b N rc on lv ts xs ++ (wHead q h0 h1 h2 h3 r0 r1 r2 r3 gv kv nv wv G T ++ (sr :: ex)))) := by
    rw [hsr]
    exact hO1.perm fun cnt one e1 e2 e3 => by simp only [e1, e2, e3, stepBox]; simp only [List.size_toArray, show (stepCells ⟨8, sa, sb, p, v, n, sn, A, l, cc, zs⟩).length = 8 from rfl]; omega
  have HC : Hid (∀ W2 m, Owns W2 B m → sr ∈ m → W2.cell? ⟨W.heap.size, 3, none⟩ = some (.int .u32 p) ∧ W2.cell? ⟨W.heap.size, 4, none⟩ = some (.int .u32 v) ∧ W2.cell? ⟨W.heap.size, 5, none⟩ = some (.int .i64 n) ∧ W2.cell? ⟨W.heap.size, 7, none⟩ = some (.slice A l cc) ∧ W.heap.size < W2.heap.size) := hide_ fun W2 m h hm => by
    obtain ⟨i, hi⟩ := List.getElem?_of_mem hm
    rw [hsr] at hi
    exact ⟨h.cell (i := i) hi rfl, h.cell (i := i) hi rfl, h.cell (i := i) hi rfl, h.cell (i := i) hi rfl, (h.base (i := i) hi).2⟩
  have c0 : W1.cell? ⟨W.heap.size, 0, none⟩ = some (.int .u8 8) := k0.cell 0
  have HB := hide_ (hW1.mono hB)
  have HB0 := hide_ hB
  have HB1 := hide_ (Nat.le_trans hB hW1.size)
  have HO := hide_ hO2
  have HG := hide_ hG
  have HZ := hide_ (show ∀ W2, Below B W W2 → Reads W2 Bz 1 A l (u8s zs) from fun W2 h => hz.below (h.mono hBz))
  have HW := hide_ hw
  have hl47 : l ≤ 140737488351232 := by omega
  have hzl : zs.length = l := by simpa using hz.1
  have HZL := hide_ hzl
  obtain ⟨c3, c4, c5, c7, cl⟩ := HC.out W1 _ hO2 (by simp)
  obtain ⟨un, hun⟩ : ∃ un : Nat, IntKind.u32.wrap n = (un : Int) := Int.eq_ofNat_of_zero_le (by simp [IntKind.wrap, IntKind.signed, IntKind.bits]; omega)
  have hlt := hlc
  unfold stepCells at *
  have HFIN : Hid (∀ W2 tv' lv' ts' xs', Owns W2 B (refRows r b N rc on lv' ts' xs' ++ (memRows g d N c on tv' ts' xs' ++ (wHead q h0 h1 h2 h3 r0 r1 r2 r3 gv kv nv wv G T ++ (sr :: ex)))) → xs'.length = N → bytesOk xs' → ts'.length ≤ 65536 → WinPost W2 B q h0 h1 h2 h3 r0 r1 r2 r3 nv wv G T g d c r b rc N ex) := hide_ fun W2 tv' lv' ts' xs' h j1 j2 j3 =>
    ⟨gv, kv, [], on, tv', lv', ts', xs', by rw [List.append_nil]; exact h.pick [sr] fun cnt one e1 e2 e3 => by simp only [e1, e2, e3, List.flatMap_nil]; omega, by simp, (fun a h => by cases h), j1, j2, j3⟩
  have HFN : Hid (∀ W2 gv' kv' a tv' lv' ts', Owns W2 B (wHead q h0 h1 h2 h3 r0 r1 r2 r3 gv' kv' nv wv (G ++ [a]) T ++ (refRows r b N rc on lv' ts' xs ++ (memRows g d N c on tv' ts' xs ++ (byteR a.A a.n a.c a.zs :: byteR a.A' a.n a.c' a.zs :: sr :: ex)))) → a.n ≤ 65536 → ts'.length ≤ 65536 → WinPost W2 B q h0 h1 h2 h3 r0 r1 r2 r3 nv wv G T g d c r b rc N ex) := hide_ fun W2 gv' kv' a tv' lv' ts' h j0 j3 =>
    ⟨gv', kv', [a], on, tv', lv', ts', xs, h.pick [sr] fun cnt one e1 e2 e3 => by simp only [e1, e2, e3, List.flatMap_cons, List.flatMap_nil, ansRows]; omega, by simp, fun a' h => by rw [List.mem_singleton.1 h]; exact j0, hl, hok, j3⟩
  have HN := hide_ hN
  have HL := hide_ hl
  have HOK := hide_ hok
  have HOKZ := hide_ hok'
  have HT := hide_ ht
  have hN16 := hN.bd.2
  clear k0 hW1 hO1 hO2 hO hB hG hz hw hzl hok' hN hl hok ht
  have HK1 := hide_ (And.intro c3 (And.intro c4 c5))
  by_cases hbig : 4096 < (un : Int)
  · have H1 := hide_ (fun (W2 : World) (h : Owns W2 B (memRows g d N c on tv ts xs ++ (refRows r b N rc on lv ts xs ++ (wHead q h0 h1 h2 h3 r0 r1 r2 r3 gv kv nv wv G T ++ (sr :: ex))))) => mCopy_big (W := W2) p v (IntKind.u32.wrap n) h HN.out (by rw [hun]; exact hbig))
    have H2 := hide_ (fun (W2 : World) => rCopy_big (r := r) p v (IntKind.u32.wrap n) W2 (by rw [hun]; exact hbig))
    have HK := hide_ (show ∀ W2, Owns W2 B (memRows g d N c on tv ts xs ++ (refRows r b N rc on lv ts xs ++ (wHead q h0 h1 h2 h3 r0 r1 r2 r3 gv kv nv wv G T ++ (sr :: ex)))) → W2.cell? ⟨W.heap.size, 3, none⟩ = some (.int .u32 p) ∧ W2.cell? ⟨W.heap.size, 4, none⟩ = some (.int .u32 v) ∧ W2.cell? ⟨W.heap.size, 5, none⟩ = some (.int .i64 n) from fun W2 h => by
      obtain ⟨t3, t4, t5, t7, tl⟩ := HC.out W2 _ h (by simp)
      exact ⟨t3, t4, t5⟩)
    clear hun hbig
    go_enter Try.func85, Try.ntmps85
    go_wp2_with fail
    rw [← HW.out]
    go_wp2_with fail
    go_region_held3 (fun W' => W'.cell? ⟨W.heap.size, 3, none⟩ = some (.int .u32 p) ∧ W'.cell? ⟨W.heap.size, 4, none⟩ = some (.int .u32 v) ∧ W'.cell? ⟨W.heap.size, 5, none⟩ = some (.int .i64 n))
      (exact HK.out _ HO.out)
      ((first
        | (go_at_call 44; refine (H1.out _ (by exact HO.out)).mono ?_; rintro e w9 ⟨rfl, hw9⟩; subst w9)
        | (go_at_call 122; refine (H2.out _).mono ?_; rintro e w8 ⟨rfl, hw8⟩; subst w8)))
    go_wp2
    go_ret
    exact ⟨rfl, HFIN.out _ _ _ _ _ HO.out.turned HL.out HOK.out HT.out, HB.out.drew⟩
  · have hbig' : un ≤ 4096 := by omega
    have H1 := hide_ (fun (W2 : World) (h : Owns W2 B (memRows g d N c on tv ts xs ++ (refRows r b N rc on lv ts xs ++ (wHead q h0 h1 h2 h3 r0 r1 r2 r3 gv kv nv wv G T ++ (sr :: ex))))) (hb : B ≤ W2.heap.size) => show Calls Try.prog 44 #[.pointer (some ⟨g, 0, none⟩), .int .u32 p, .int .u32 v, .int .u32 (IntKind.u32.wrap n)] W2 _ from by rw [hun]; exact mCopy_any (W := W2) p v un h hb HN.out HL.out p0 (by omega) v0 (by omega) hbig')
    have H2 := hide_ (fun (W2 : World) (tv' : Value) (h : Owns W2 B (memRows g d N c on tv' (notes N on true p (notes N on false v ts un) un) (puts N p (readN N v xs un) xs un) ++ (refRows r b N rc on lv ts xs ++ (wHead q h0 h1 h2 h3 r0 r1 r2 r3 gv kv nv wv G T ++ (sr :: ex))))) (hb : B ≤ W2.heap.size) => show Calls Try.prog 122 #[.pointer (some ⟨r, 0, none⟩), .int .u32 p, .int .u32 v, .int .u32 (IntKind.u32.wrap n)] W2 _ from by rw [hun]; exact rCopy_any (W := W2) p v un h.turned hb HN.out.pow HL.out p0 (by omega) v0 (by omega) hbig')
    clear hun hbig
    go_enter Try.func85, Try.ntmps85
    go_wp2_with fail
    rw [← HW.out]
    go_wp2_with fail
    go_region_held3 (fun W' => W'.cell? ⟨W.heap.size, 3, none⟩ = some (.int .u32 p) ∧ W'.cell? ⟨W.heap.size, 4, none⟩ = some (.int .u32 v) ∧ W'.cell? ⟨W.heap.size, 5, none⟩ = some (.int .i64 n))
      (first | exact HK1.out | exact HK9.out | exact HK8.out)
      ((first
        | (go_at_call 44; refine (H1.out _ (by exact HO.out) (by exact HB1.out)).mono ?_; rintro e w9 ⟨rfl, ⟨tv9, hO9⟩, hb9⟩; obtain ⟨t3, t4, t5, _⟩ := HC.out w9 _ hO9 (by simp); have HK9 := hide_ (And.intro t3 (And.intro t4 t5)); have HO9 := hide_ hO9; have HB9 : Hid (Below B W w9) := (by first | exact hide_ (HB.out.trans hb9) | exact hide_ (HB.out.drew.trans hb9)); clear hO9 hb9 t3 t4 t5)
        | (go_at_call 122; refine (H2.out _ tv9 (by exact HO9.out) (by exact Nat.le_trans HB0.out HB9.out.size)).mono ?_; rintro e w8 ⟨rfl, ⟨lv8, hO8⟩, hb8⟩; obtain ⟨t3, t4, t5, _⟩ := HC.out w8 _ hO8 (by simp); have HK8 := hide_ (And.intro t3 (And.intro t4 t5)); have HO8 := hide_ hO8; have HB8 : Hid (Below B W w8) := (by first | exact hide_ (HB9.out.trans hb8) | exact hide_ (HB9.out.drew.trans hb8)); clear hO8 hb8 t3 t4 t5)))
    go_wp2
    go_ret
    exact ⟨rfl, HFIN.out _ _ _ _ _ HO8.out (by rw [puts_len, HL.out]) (puts_ok (readN_ok HOK.out _) HOK.out _) (notes_len (notes_len HT.out _) _), HB8.out⟩
set_option maxRecDepth 100000 in
set_option maxHeartbeats 4000000 in
theorem windows_s9 (Bz : Nat) (x : StepV) (hd : x.d = 9) (hx : StepOk W Bz x) (hBz : Bz ≤ B) (hO : Owns W B (memRows g d N c on tv ts xs ++ (refRows r b N rc on lv ts xs ++ (wHead q h0 h1 h2 h3 r0 r1 r2 r3 gv kv nv wv G T ++ ex)))) (hB : B ≤ W.heap.size) (hG : G.length ≤ 4398046511104) (hN : IsSeg N) (hl : xs.length = N) (hok : bytesOk xs) (ht : ts.length ≤ 65536) :
    Calls Try.prog 85 #[.pointer (some ⟨q, 0, none⟩), .agg (stepCells x).toArray, .pointer (some ⟨g, 0, none⟩), .pointer (some ⟨r, 0, none⟩)] W fun e W' => e = .returned (.bool true) ∧
      WinPost W' B q h0 h1 h2 h3 r0 r1 r2 r3 nv wv G T g d c r b rc N ex ∧ Below B W W' := by
  obtain ⟨dd, sa, sb, p, v, n, sn, A, l, cc, zs⟩ := x
  obtain ⟨_, _, _, ⟨p0, p1⟩, ⟨v0, v1⟩, ⟨n0, n1⟩, hz, hok', ⟨hlc, hcm⟩⟩ := hx
  simp only at hd
  subst hd
  simp only at p0 p1 v0 v1 n0 n1 hz hok' hlc hcm
  have hW1 : Below W.heap.size W (W.alloc (.cells (stepCells ⟨9, sa, sb, p, v, n, sn, A, l, cc, zs⟩).toArray 79)) := (Below.refl _ _).alloc (Nat.le_refl _) _
  have hO1 := hO.box 79 (stepCells ⟨9, sa, sb, p, v, n, sn, A, l, cc, zs⟩).toArray hB (by simp [stepCells, maxLen])
  have k0 : Blk (W.alloc (.cells (stepCells ⟨9, sa, sb, p, v, n, sn, A, l, cc, zs⟩).toArray 79)) W.heap.size 79 (stepCells ⟨9, sa, sb, p, v, n, sn, A, l, cc, zs⟩).toArray := Blk.new W _ _
  obtain ⟨W1, hw⟩ : ∃ W1, W1 = W.alloc (.cells (stepCells ⟨9, sa, sb, p, v, n, sn, A, l, cc, zs⟩).toArray 79) := ⟨_, rfl⟩
  rw [← hw] at hW1 k0 hO1
  obtain ⟨sr, hsr⟩ : ∃ sr : Ro, sr = stepBox W.heap.size ⟨9, sa, sb, p, v, n, sn, A, l, cc, zs⟩ := ⟨_, rfl⟩
  have hO2 : Owns W1 B (memRows g d N c on tv ts xs ++ (refRows r b N rc on lv ts xs ++ (wHead q h0 h1 h2 h3 r0 r1 r2 r3 gv kv nv wv G T ++ (sr :: ex)))) := by
    rw [hsr]
    exact hO1.perm fun cnt one e1 e2 e3 => by simp only [e1, e2, e3, stepBox]; simp only [List.size_toArray, show (stepCells ⟨9, sa, sb, p, v, n, sn, A, l, cc, zs⟩).length = 8 from rfl]; omega
  have HC : Hid (∀ W2 m, Owns W2 B m → sr ∈ m → W2.cell? ⟨W.heap.size, 3, none⟩ = some (.int .u32 p) ∧ W2.cell? ⟨W.heap.size, 4, none⟩ = some (.int .u32 v) ∧ W2.cell? ⟨W.heap.size, 5, none⟩ = some (.int .i64 n) ∧ W2.cell? ⟨W.heap.size, 7, none⟩ = some (.slice A l cc) ∧ W.heap.size < W2.heap.size) := hide_ fun W2 m h hm => by
    obtain ⟨i, hi⟩ := List.getElem?_of_mem hm
    rw [hsr] at hi
    exact ⟨h.cell (i := i) hi rfl, h.cell (i := i) hi rfl, h.cell (i := i) hi rfl, h.cell (i := i) hi rfl, (h.base (i := i) hi).2⟩
  have c0 : W1.cell? ⟨W.heap.size, 0, none⟩ = some (.int .u8 9) := k0.cell 0
  have HB := hide_ (hW1.mono hB)
  have HB0 := hide_ hB
  have HB1 := hide_ (Nat.le_trans hB hW1.size)
  have HO := hide_ hO2
  have HG := hide_ hG
  have HZ := hide_ (show ∀ W2, Below B W W2 → Reads W2 Bz 1 A l (u8s zs) from fun W2 h => hz.below (h.mono hBz))
  have HW := hide_ hw
  have hl47 : l ≤ 140737488351232 := by omega
  have hzl : zs.length = l := by simpa using hz.1
  have HZL := hide_ hzl
  obtain ⟨c3, c4, c5, c7, cl⟩ := HC.out W1 _ hO2 (by simp)
  obtain ⟨un, hun⟩ : ∃ un : Nat, IntKind.u32.wrap n = (un : Int) := Int.eq_ofNat_of_zero_le (by simp [IntKind.wrap, IntKind.signed, IntKind.bits]; omega)
  have hlt := hlc
  unfold stepCells at *
  have HFIN : Hid (∀ W2 tv' lv' ts' xs', Owns W2 B (refRows r b N rc on lv' ts' xs' ++ (memRows g d N c on tv' ts' xs' ++ (wHead q h0 h1 h2 h3 r0 r1 r2 r3 gv kv nv wv G T ++ (sr :: ex)))) → xs'.length = N → bytesOk xs' → ts'.length ≤ 65536 → WinPost W2 B q h0 h1 h2 h3 r0 r1 r2 r3 nv wv G T g d c r b rc N ex) := hide_ fun W2 tv' lv' ts' xs' h j1 j2 j3 =>
    ⟨gv, kv, [], on, tv', lv', ts', xs', by rw [List.append_nil]; exact h.pick [sr] fun cnt one e1 e2 e3 => by simp only [e1, e2, e3, List.flatMap_nil]; omega, by simp, (fun a h => by cases h), j1, j2, j3⟩
  have HFN : Hid (∀ W2 gv' kv' a tv' lv' ts', Owns W2 B (wHead q h0 h1 h2 h3 r0 r1 r2 r3 gv' kv' nv wv (G ++ [a]) T ++ (refRows r b N rc on lv' ts' xs ++ (memRows g d N c on tv' ts' xs ++ (byteR a.A a.n a.c a.zs :: byteR a.A' a.n a.c' a.zs :: sr :: ex)))) → a.n ≤ 65536 → ts'.length ≤ 65536 → WinPost W2 B q h0 h1 h2 h3 r0 r1 r2 r3 nv wv G T g d c r b rc N ex) := hide_ fun W2 gv' kv' a tv' lv' ts' h j0 j3 =>
    ⟨gv', kv', [a], on, tv', lv', ts', xs, h.pick [sr] fun cnt one e1 e2 e3 => by simp only [e1, e2, e3, List.flatMap_cons, List.flatMap_nil, ansRows]; omega, by simp, fun a' h => by rw [List.mem_singleton.1 h]; exact j0, hl, hok, j3⟩
  have HN := hide_ hN
  have HL := hide_ hl
  have HOK := hide_ hok
  have HOKZ := hide_ hok'
  have HT := hide_ ht
  have hN16 := hN.bd.2
  clear k0 hW1 hO1 hO2 hO hB hG hz hw hzl hok' hN hl hok ht
  by_cases hbig : n < 0 ∨ 4096 < n
  · have H1 := hide_ (fun (W2 : World) (h : Owns W2 B (memRows g d N c on tv ts xs ++ (refRows r b N rc on lv ts xs ++ (wHead q h0 h1 h2 h3 r0 r1 r2 r3 gv kv nv wv G T ++ (sr :: ex))))) => mRead_big (W := W2) p n h HN.out hbig)
    have H2 := hide_ (fun (W2 : World) => rRead_big (r := r) p n W2 hbig)
    have hNil : Owns W1 B (wHead q h0 h1 h2 h3 r0 r1 r2 r3 gv kv nv wv G T ++ (refRows r b N rc on lv ts xs ++ (memRows g d N c on tv ts xs ++ (byteR none 0 0 [] :: byteR none 0 0 [] :: sr :: ex)))) :=
      ((HO.out.nilrow 5 1).nilrow 5 1).perm fun cnt one e1 e2 e3 => by simp only [e1, e2, e3, byteR, List.map_nil]; omega
    have hBy := hide_ (bytes_any none 0 0 none 0 [] hNil HB1.out (by simp) (by simp) (by omega) HG.out)
    clear hun hbig hNil
    go_enter Try.func85, Try.ntmps85
    go_wp2_with fail
    rw [← HW.out]
    go_wp2_with fail
    refine (H1.out _ HO.out).mono ?_
    rintro e w9 ⟨rfl, hw9⟩
    subst w9
    go_wp2_with fail
    refine (H2.out _).mono ?_
    rintro e w8 ⟨rfl, hw8⟩
    subst w8
    go_wp2_with fail
    refine hBy.out.mono ?_
    rintro e w7 ⟨rfl, gv', kv', hO7, hb7⟩
    have HO7 := hide_ (HFN.out _ _ _ _ _ _ _ hO7 (Nat.zero_le _) HT.out)
    have HB7 := hide_ (HB.out.trans hb7)
    clear hO7 hb7 hBy
    go_wp2
    go_ret
    exact ⟨by simp, HO7.out, HB7.out⟩
  · obtain ⟨m, rfl⟩ := Int.eq_ofNat_of_zero_le (show 0 ≤ n by omega)
    have hm4 : m ≤ 4096 := by omega
    have H1 := hide_ (mRead_any (W := W1) p m HO.out HB1.out HN.out HL.out p0 (by omega) hm4)
    have H2 := hide_ (fun (W2 : World) (o : Nat) (tv' : Value) (h : Owns W2 B (memRows g d N c on tv' (notes N on false p ts m) xs ++ (byteR (some ⟨o, 0, none⟩) m m (readN N p xs m) :: (refRows r b N rc on lv ts xs ++ (wHead q h0 h1 h2 h3 r0 r1 r2 r3 gv kv nv wv G T ++ (sr :: ex)))))) (hb : B ≤ W2.heap.size) =>
      rRead_any (W := W2) (ex := memRows g d N c on tv' (notes N on false p ts m) xs ++ (byteR (some ⟨o, 0, none⟩) m m (readN N p xs m) :: (wHead q h0 h1 h2 h3 r0 r1 r2 r3 gv kv nv wv G T ++ (sr :: ex)))) p m (show Owns W2 B (refRows r b N rc on lv ts xs ++ (memRows g d N c on tv' (notes N on false p ts m) xs ++ (byteR (some ⟨o, 0, none⟩) m m (readN N p xs m) :: (wHead q h0 h1 h2 h3 r0 r1 r2 r3 gv kv nv wv G T ++ (sr :: ex))))) from h.perm fun cnt one e1 e2 e3 => by simp only [e1, e2, e3]; omega) hb HN.out.pow HL.out p0 (by omega) hm4)
    clear hun hbig
    go_enter Try.func85, Try.ntmps85
    go_wp2_with fail
    rw [← HW.out]
    go_wp2_with fail
    refine H1.out.mono ?_
    rintro e w9 ⟨o, tv9, rfl, hO9, hb9⟩
    have hB9 := HB.out.trans hb9
    have H2' := hide_ (H2.out _ _ _ hO9 (Nat.le_trans HB0.out hB9.size))
    obtain ⟨d3, d4, d5, d7, dl⟩ := HC.out w9 _ hO9 (by simp)
    have HB9 := hide_ hB9
    clear hO9 hb9 hB9 H2 H1
    go_wp2_with fail
    refine H2'.out.mono ?_
    rintro e w8 ⟨A8, c8, rfl, ⟨lv8, hO8⟩, hb8⟩
    have hB8 := HB9.out.trans hb8
    have hO8' : Owns w8 B (wHead q h0 h1 h2 h3 r0 r1 r2 r3 gv kv nv wv G T ++ (refRows r b N rc on lv8 (notes N on false p ts m) xs ++ (memRows g d N c on tv9 (notes N on false p ts m) xs ++ (byteR (some ⟨o, 0, none⟩) m m (readN N p xs m) :: byteR A8 m c8 (readN N p xs m) :: sr :: ex)))) :=
      hO8.perm fun cnt one e1 e2 e3 => by simp only [e1, e2, e3]; omega
    have hBy := hide_ (bytes_any (some ⟨o, 0, none⟩) m m A8 c8 (readN N p xs m) hO8' (Nat.le_trans HB0.out hB8.size) (by simp) (by simp) (by omega) HG.out)
    have HB8 := hide_ hB8
    clear hO8 hO8' hb8 hB8 H2'
    go_wp2_with fail
    refine hBy.out.mono ?_
    rintro e w7 ⟨rfl, gv', kv', hO7, hb7⟩
    have HO7 := hide_ (HFN.out _ _ _ _ _ _ _ hO7 (show m ≤ 65536 by omega) (notes_len HT.out _))
    have HB7 := hide_ (HB8.out.trans hb7)
    clear hO7 hb7 hBy
    go_wp2
    go_ret
    exact ⟨by simp, HO7.out, HB7.out⟩
set_option maxRecDepth 100000 in
set_option maxHeartbeats 4000000 in
theorem windows_s10 (Bz : Nat) (x : StepV) (hd : x.d = 10) (hx : StepOk W Bz x) (hBz : Bz ≤ B) (hO : Owns W B (memRows g d N c on tv ts xs ++ (refRows r b N rc on lv ts xs ++ (wHead q h0 h1 h2 h3 r0 r1 r2 r3 gv kv nv wv G T ++ ex)))) (hB : B ≤ W.heap.size) (hG : G.length ≤ 4398046511104) (hN : IsSeg N) (hl : xs.length = N) (hok : bytesOk xs) (ht : ts.length ≤ 65536) :
    Calls Try.prog 85 #[.pointer (some ⟨q, 0, none⟩), .agg (stepCells x).toArray, .pointer (some ⟨g, 0, none⟩), .pointer (some ⟨r, 0, none⟩)] W fun e W' => e = .returned (.bool true) ∧
      WinPost W' B q h0 h1 h2 h3 r0 r1 r2 r3 nv wv G T g d c r b rc N ex ∧ Below B W W' := by
  obtain ⟨dd, sa, sb, p, v, n, sn, A, l, cc, zs⟩ := x
  obtain ⟨_, _, _, ⟨p0, p1⟩, ⟨v0, v1⟩, ⟨n0, n1⟩, hz, hok', ⟨hlc, hcm⟩⟩ := hx
  simp only at hd
  subst hd
  simp only at p0 p1 v0 v1 n0 n1 hz hok' hlc hcm
  have hW1 : Below W.heap.size W (W.alloc (.cells (stepCells ⟨10, sa, sb, p, v, n, sn, A, l, cc, zs⟩).toArray 79)) := (Below.refl _ _).alloc (Nat.le_refl _) _
  have hO1 := hO.box 79 (stepCells ⟨10, sa, sb, p, v, n, sn, A, l, cc, zs⟩).toArray hB (by simp [stepCells, maxLen])
  have k0 : Blk (W.alloc (.cells (stepCells ⟨10, sa, sb, p, v, n, sn, A, l, cc, zs⟩).toArray 79)) W.heap.size 79 (stepCells ⟨10, sa, sb, p, v, n, sn, A, l, cc, zs⟩).toArray := Blk.new W _ _
  obtain ⟨W1, hw⟩ : ∃ W1, W1 = W.alloc (.cells (stepCells ⟨10, sa, sb, p, v, n, sn, A, l, cc, zs⟩).toArray 79) := ⟨_, rfl⟩
  rw [← hw] at hW1 k0 hO1
  obtain ⟨sr, hsr⟩ : ∃ sr : Ro, sr = stepBox W.heap.size ⟨10, sa, sb, p, v, n, sn, A, l, cc, zs⟩ := ⟨_, rfl⟩
  have hO2 : Owns W1 B (memRows g d N c on tv ts xs ++ (refRows r b N rc on lv ts xs ++ (wHead q h0 h1 h2 h3 r0 r1 r2 r3 gv kv nv wv G T ++ (sr :: ex)))) := by
    rw [hsr]
    exact hO1.perm fun cnt one e1 e2 e3 => by simp only [e1, e2, e3, stepBox]; simp only [List.size_toArray, show (stepCells ⟨10, sa, sb, p, v, n, sn, A, l, cc, zs⟩).length = 8 from rfl]; omega
  have HC : Hid (∀ W2 m, Owns W2 B m → sr ∈ m → W2.cell? ⟨W.heap.size, 3, none⟩ = some (.int .u32 p) ∧ W2.cell? ⟨W.heap.size, 4, none⟩ = some (.int .u32 v) ∧ W2.cell? ⟨W.heap.size, 5, none⟩ = some (.int .i64 n) ∧ W2.cell? ⟨W.heap.size, 7, none⟩ = some (.slice A l cc) ∧ W.heap.size < W2.heap.size) := hide_ fun W2 m h hm => by
    obtain ⟨i, hi⟩ := List.getElem?_of_mem hm
    rw [hsr] at hi
    exact ⟨h.cell (i := i) hi rfl, h.cell (i := i) hi rfl, h.cell (i := i) hi rfl, h.cell (i := i) hi rfl, (h.base (i := i) hi).2⟩
  have c0 : W1.cell? ⟨W.heap.size, 0, none⟩ = some (.int .u8 10) := k0.cell 0
  have HB := hide_ (hW1.mono hB)
  have HB0 := hide_ hB
  have HB1 := hide_ (Nat.le_trans hB hW1.size)
  have HO := hide_ hO2
  have HG := hide_ hG
  have HZ := hide_ (show ∀ W2, Below B W W2 → Reads W2 Bz 1 A l (u8s zs) from fun W2 h => hz.below (h.mono hBz))
  have HW := hide_ hw
  have hl47 : l ≤ 140737488351232 := by omega
  have hzl : zs.length = l := by simpa using hz.1
  have HZL := hide_ hzl
  obtain ⟨c3, c4, c5, c7, cl⟩ := HC.out W1 _ hO2 (by simp)
  obtain ⟨un, hun⟩ : ∃ un : Nat, IntKind.u32.wrap n = (un : Int) := Int.eq_ofNat_of_zero_le (by simp [IntKind.wrap, IntKind.signed, IntKind.bits]; omega)
  have hlt := hlc
  unfold stepCells at *
  have HFIN : Hid (∀ W2 tv' lv' ts' xs', Owns W2 B (refRows r b N rc on lv' ts' xs' ++ (memRows g d N c on tv' ts' xs' ++ (wHead q h0 h1 h2 h3 r0 r1 r2 r3 gv kv nv wv G T ++ (sr :: ex)))) → xs'.length = N → bytesOk xs' → ts'.length ≤ 65536 → WinPost W2 B q h0 h1 h2 h3 r0 r1 r2 r3 nv wv G T g d c r b rc N ex) := hide_ fun W2 tv' lv' ts' xs' h j1 j2 j3 =>
    ⟨gv, kv, [], on, tv', lv', ts', xs', by rw [List.append_nil]; exact h.pick [sr] fun cnt one e1 e2 e3 => by simp only [e1, e2, e3, List.flatMap_nil]; omega, by simp, (fun a h => by cases h), j1, j2, j3⟩
  have HFN : Hid (∀ W2 gv' kv' a tv' lv' ts', Owns W2 B (wHead q h0 h1 h2 h3 r0 r1 r2 r3 gv' kv' nv wv (G ++ [a]) T ++ (refRows r b N rc on lv' ts' xs ++ (memRows g d N c on tv' ts' xs ++ (byteR a.A a.n a.c a.zs :: byteR a.A' a.n a.c' a.zs :: sr :: ex)))) → a.n ≤ 65536 → ts'.length ≤ 65536 → WinPost W2 B q h0 h1 h2 h3 r0 r1 r2 r3 nv wv G T g d c r b rc N ex) := hide_ fun W2 gv' kv' a tv' lv' ts' h j0 j3 =>
    ⟨gv', kv', [a], on, tv', lv', ts', xs, h.pick [sr] fun cnt one e1 e2 e3 => by simp only [e1, e2, e3, List.flatMap_cons, List.flatMap_nil, ansRows]; omega, by simp, fun a' h => by rw [List.mem_singleton.1 h]; exact j0, hl, hok, j3⟩
  have HN := hide_ hN
  have HL := hide_ hl
  have HOK := hide_ hok
  have HOKZ := hide_ hok'
  have HT := hide_ ht
  have hN16 := hN.bd.2
  clear k0 hW1 hO1 hO2 hO hB hG hz hw hzl hok' hN hl hok ht
  by_cases hbig : 4096 < l
  · have HL1 := hide_ (lent_rows A l cc Bz zs HO.out HB1.out (HZ.out _ HB.out) (Nat.le_trans hBz HB1.out) hl47)
    have H1 := hide_ (fun (W2 : World) (f cf : Nat) (h : Owns W2 B (memRows g d N c on tv ts xs ++ (lentR f l cf zs :: (refRows r b N rc on lv ts xs ++ (wHead q h0 h1 h2 h3 r0 r1 r2 r3 gv kv nv wv G T ++ (sr :: ex)))))) (hb : B ≤ W2.heap.size) => mWrite_big (W := W2) p (some ⟨f, 0, none⟩) l cf h HN.out hbig)
    have H2 := hide_ (fun (W2 : World) => rWrite_big (r := r) p A l cc W2 hbig)
    clear hbig
    go_enter Try.func85, Try.ntmps85
    go_wp2_with fail
    rw [← HW.out]
    go_wp2_with fail
    refine HL1.out.mono ?_
    rintro e w5 ⟨f, cf, rfl, hfc, hO5, hb5⟩
    have hB5 := HB.out.trans (hb5.mono HB1.out)
    obtain ⟨d3, d4, d5, d7, dl⟩ := HC.out w5 _ hO5 (by simp)
    have HK5 := hide_ (And.intro d3 d7)
    have i0 : (0 : Int) ≤ (l : Int) := by omega
    have i1 : (l : Int) ≤ (cf : Int) := by omega
    have HO5 : Hid (Owns w5 B (memRows g d N c on tv ts xs ++ (lentR f l cf zs :: (refRows r b N rc on lv ts xs ++ (wHead q h0 h1 h2 h3 r0 r1 r2 r3 gv kv nv wv G T ++ (sr :: ex)))))) := hide_ (hO5.perm fun cnt one e1 e2 e3 => by simp only [e1, e2, e3]; omega)
    have HB5 := hide_ hB5
    have HB5s := hide_ (Nat.le_trans HB0.out hB5.size)
    clear hO5 hb5 hB5 HL1
    go_wp2_with fail
    go_region_held3 (fun W' => W'.cell? ⟨W.heap.size, 3, none⟩ = some (.int .u32 p) ∧ W'.cell? ⟨W.heap.size, 7, none⟩ = some (.slice A l cc))
      (exact HK5.out)
      ((go_at_call 42; refine (H1.out _ f cf (by exact HO5.out) (by exact HB5s.out)).mono ?_; rintro e w9 ⟨rfl, hw9⟩; subst w9))
    have HB9 : Hid (Below B W w5.drew) := hide_ HB5.out.drew
    have HO9 : Hid (Owns w5.drew B (memRows g d N c on tv ts xs ++ (lentR f l cf zs :: (refRows r b N rc on lv ts xs ++ (wHead q h0 h1 h2 h3 r0 r1 r2 r3 gv kv nv wv G T ++ (sr :: ex)))))) := hide_ HO5.out
    generalize w5.drew = w9 at HB9 HO9 ⊢
    obtain ⟨t3, t4, t5, t7, tl⟩ := HC.out w9 _ HO9.out (by simp)
    have hKp : Hid (Calls Try.prog 71 #[.slice (some ⟨f, 0, none⟩) (l + 64) cf, .slice A l cc] w9 fun e w' => e = .returned (.bool true) ∧ ∃ nq, w' = w9.drewN nq) := hide_ ((KeptBytes_any (some ⟨f, 0, none⟩) A (l + 64) cf l cc (zs ++ marks8 0 0 64) zs w9.heap.size w9 (Reads.of_own (HO9.out.1 (lentR f l cf zs) (by simp))) ((HZ.out _ HB9.out).more (Nat.le_trans hBz (Nat.le_trans HB0.out HB9.out.size))) (by simp only [maxLen]; omega) (by simp only [maxLen]; omega)).mono fun e w' h => ⟨by rw [h.1]; simp, h.2⟩)
    go_wp2_with fail
    refine hKp.out.mono ?_
    rintro e w6 ⟨rfl, nq, rfl⟩
    go_wp2_with fail
    refine (H2.out _).mono ?_
    rintro e w8 ⟨rfl, hw8⟩
    subst w8
    have hO8 : Owns (w9.drewN nq) B (lentR f l cf zs :: (refRows r b N rc on lv ts xs ++ (memRows g d N c on tv ts xs ++ (wHead q h0 h1 h2 h3 r0 r1 r2 r3 gv kv nv wv G T ++ (sr :: ex))))) := (HO9.out.drewN nq).perm fun cnt one e1 e2 e3 => by simp only [e1, e2, e3]; omega
    have hOv := hide_ (over_rows hO8 (Nat.le_trans HB0.out HB9.out.size) (by simp only [maxLen]; omega))
    have HB8 := hide_ (below_draws2 HB9.out nq)
    clear hO8
    go_wp2_with fail
    refine hOv.out.mono ?_
    rintro e w7 ⟨rfl, hO7, hb7⟩
    have HO7 := hide_ (HFIN.out _ _ _ _ _ hO7 HL.out HOK.out HT.out)
    have HB7 := hide_ (HB8.out.trans hb7)
    clear hO7 hb7 hOv
    go_wp2
    go_ret
    exact ⟨rfl, HO7.out, HB7.out⟩
  · have hl4 : l ≤ 4096 := by omega
    have HL1 := hide_ (lent_rows A l cc Bz zs HO.out HB1.out (HZ.out _ HB.out) (Nat.le_trans hBz HB1.out) hl47)
    have H1 := hide_ (fun (W2 : World) (f cf : Nat) (h : Owns W2 B (memRows g d N c on tv ts xs ++ (lentR f l cf zs :: (refRows r b N rc on lv ts xs ++ (wHead q h0 h1 h2 h3 r0 r1 r2 r3 gv kv nv wv G T ++ (sr :: ex)))))) (hb : B ≤ W2.heap.size) => mWrite_any (W := W2) p (some ⟨f, 0, none⟩) l cf zs h hb HN.out HL.out p0 (by omega) hl4 HZL.out (fun W3 h3 => lent_reads HZL.out h3 (.head _)))
    have H2 := hide_ (fun (W2 : World) (f cf : Nat) (tv' : Value) (h : Owns W2 B (memRows g d N c on tv' (notes N on true p ts l) (puts N p zs xs l) ++ (lentR f l cf zs :: (refRows r b N rc on lv ts xs ++ (wHead q h0 h1 h2 h3 r0 r1 r2 r3 gv kv nv wv G T ++ (sr :: ex)))))) (hb : B ≤ W2.heap.size) (hz2 : Reads W2 Bz 1 A l (u8s zs)) => rWrite_any (W := W2) (ex := memRows g d N c on tv' (notes N on true p ts l) (puts N p zs xs l) ++ (lentR f l cf zs :: (wHead q h0 h1 h2 h3 r0 r1 r2 r3 gv kv nv wv G T ++ (sr :: ex)))) p A l cc Bz zs (show Owns W2 B (refRows r b N rc on lv ts xs ++ (memRows g d N c on tv' (notes N on true p ts l) (puts N p zs xs l) ++ (lentR f l cf zs :: (wHead q h0 h1 h2 h3 r0 r1 r2 r3 gv kv nv wv G T ++ (sr :: ex))))) from h.perm fun cnt one e1 e2 e3 => by simp only [e1, e2, e3]; omega) hb HN.out.pow HL.out p0 (by omega) hl4 hz2 hBz)
    clear hbig
    go_enter Try.func85, Try.ntmps85
    go_wp2_with fail
    rw [← HW.out]
    go_wp2_with fail
    refine HL1.out.mono ?_
    rintro e w5 ⟨f, cf, rfl, hfc, hO5, hb5⟩
    have hB5 := HB.out.trans (hb5.mono HB1.out)
    obtain ⟨d3, d4, d5, d7, dl⟩ := HC.out w5 _ hO5 (by simp)
    have HK5 := hide_ (And.intro d3 d7)
    have i0 : (0 : Int) ≤ (l : Int) := by omega
    have i1 : (l : Int) ≤ (cf : Int) := by omega
    have HO5 : Hid (Owns w5 B (memRows g d N c on tv ts xs ++ (lentR f l cf zs :: (refRows r b N rc on lv ts xs ++ (wHead q h0 h1 h2 h3 r0 r1 r2 r3 gv kv nv wv G T ++ (sr :: ex)))))) := hide_ (hO5.perm fun cnt one e1 e2 e3 => by simp only [e1, e2, e3]; omega)
    have HB5 := hide_ hB5
    have HB5s := hide_ (Nat.le_trans HB0.out hB5.size)
    clear hO5 hb5 hB5 HL1
    go_wp2_with fail
    go_region_held3 (fun W' => W'.cell? ⟨W.heap.size, 3, none⟩ = some (.int .u32 p) ∧ W'.cell? ⟨W.heap.size, 7, none⟩ = some (.slice A l cc))
      (first | exact HK5.out | exact HK9.out)
      ((go_at_call 42; refine (H1.out _ f cf (by exact HO5.out) (by exact HB5s.out)).mono ?_; rintro e w9 ⟨rfl, ⟨tv9, hO9⟩, hb9⟩; obtain ⟨t3, t4, t5, t7, _⟩ := HC.out w9 _ hO9 (by simp); have HK9 := hide_ (And.intro t3 t7); have HO9 := hide_ hO9; have HB9 : Hid (Below B W w9) := (by first | exact hide_ (HB5.out.trans hb9) | exact hide_ (HB5.out.drew.trans hb9)); clear hO9 hb9 t3 t4 t5 t7))
    obtain ⟨t3, t4, t5, t7, tl⟩ := HC.out w9 _ HO9.out (by simp)
    have hKp : Hid (Calls Try.prog 71 #[.slice (some ⟨f, 0, none⟩) (l + 64) cf, .slice A l cc] w9 fun e w' => e = .returned (.bool true) ∧ ∃ nq, w' = w9.drewN nq) := hide_ ((KeptBytes_any (some ⟨f, 0, none⟩) A (l + 64) cf l cc (zs ++ marks8 0 0 64) zs w9.heap.size w9 (Reads.of_own (HO9.out.1 (lentR f l cf zs) (by simp))) ((HZ.out _ HB9.out).more (Nat.le_trans hBz (Nat.le_trans HB0.out HB9.out.size))) (by simp only [maxLen]; omega) (by simp only [maxLen]; omega)).mono fun e w' h => ⟨by rw [h.1]; simp, h.2⟩)
    go_wp2_with fail
    refine hKp.out.mono ?_
    rintro e w6 ⟨rfl, nq, rfl⟩
    have H2' := hide_ (H2.out (w9.drewN nq) f cf tv9 (HO9.out.drewN nq) (Nat.le_trans HB0.out HB9.out.size) (HZ.out _ (below_draws2 HB9.out nq)))
    go_wp2_with fail
    refine H2'.out.mono ?_
    rintro e w8 ⟨rfl, ⟨lv8, hO8⟩, hb8⟩
    have hO8' : Owns w8 B (lentR f l cf zs :: (refRows r b N rc on lv8 (notes N on true p ts l) (puts N p zs xs l) ++ (memRows g d N c on tv9 (notes N on true p ts l) (puts N p zs xs l) ++ (wHead q h0 h1 h2 h3 r0 r1 r2 r3 gv kv nv wv G T ++ (sr :: ex))))) := hO8.perm fun cnt one e1 e2 e3 => by simp only [e1, e2, e3]; omega
    have hB8 := (below_draws2 HB9.out nq).trans hb8
    have hOv := hide_ (over_rows hO8' (Nat.le_trans HB0.out hB8.size) (by simp only [maxLen]; omega))
    have HB8 := hide_ hB8
    clear hO8 hO8' hb8 hB8 H2'
    go_wp2_with fail
    refine hOv.out.mono ?_
    rintro e w7 ⟨rfl, hO7, hb7⟩
    have HO7 := hide_ (HFIN.out _ _ _ _ _ hO7 (by rw [puts_len, HL.out]) (puts_ok HOKZ.out HOK.out _) (notes_len HT.out _))
    have HB7 := hide_ (HB8.out.trans hb7)
    clear hO7 hb7 hOv
    go_wp2
    go_ret
    exact ⟨rfl, HO7.out, HB7.out⟩
set_option maxRecDepth 100000 in
set_option maxHeartbeats 4000000 in
theorem windows_s11 (Bz : Nat) (x : StepV) (hd : x.d = 11) (hx : StepOk W Bz x) (hBz : Bz ≤ B) (hO : Owns W B (memRows g d N c on tv ts xs ++ (refRows r b N rc on lv ts xs ++ (wHead q h0 h1 h2 h3 r0 r1 r2 r3 gv kv nv wv G T ++ ex)))) (hB : B ≤ W.heap.size) (hG : G.length ≤ 4398046511104) (hN : IsSeg N) (hl : xs.length = N) (hok : bytesOk xs) (ht : ts.length ≤ 65536) :
    Calls Try.prog 85 #[.pointer (some ⟨q, 0, none⟩), .agg (stepCells x).toArray, .pointer (some ⟨g, 0, none⟩), .pointer (some ⟨r, 0, none⟩)] W fun e W' => e = .returned (.bool true) ∧
      WinPost W' B q h0 h1 h2 h3 r0 r1 r2 r3 nv wv G T g d c r b rc N ex ∧ Below B W W' := by
  obtain ⟨dd, sa, sb, p, v, n, sn, A, l, cc, zs⟩ := x
  obtain ⟨_, _, _, ⟨p0, p1⟩, ⟨v0, v1⟩, ⟨n0, n1⟩, hz, hok', ⟨hlc, hcm⟩⟩ := hx
  simp only at hd
  subst hd
  simp only at p0 p1 v0 v1 n0 n1 hz hok' hlc hcm
  have hW1 : Below W.heap.size W (W.alloc (.cells (stepCells ⟨11, sa, sb, p, v, n, sn, A, l, cc, zs⟩).toArray 79)) := (Below.refl _ _).alloc (Nat.le_refl _) _
  have hO1 := hO.box 79 (stepCells ⟨11, sa, sb, p, v, n, sn, A, l, cc, zs⟩).toArray hB (by simp [stepCells, maxLen])
  have k0 : Blk (W.alloc (.cells (stepCells ⟨11, sa, sb, p, v, n, sn, A, l, cc, zs⟩).toArray 79)) W.heap.size 79 (stepCells ⟨11, sa, sb, p, v, n, sn, A, l, cc, zs⟩).toArray := Blk.new W _ _
  obtain ⟨W1, hw⟩ : ∃ W1, W1 = W.alloc (.cells (stepCells ⟨11, sa, sb, p, v, n, sn, A, l, cc, zs⟩).toArray 79) := ⟨_, rfl⟩
  rw [← hw] at hW1 k0 hO1
  obtain ⟨sr, hsr⟩ : ∃ sr : Ro, sr = stepBox W.heap.size ⟨11, sa, sb, p, v, n, sn, A, l, cc, zs⟩ := ⟨_, rfl⟩
  have hO2 : Owns W1 B (memRows g d N c on tv ts xs ++ (refRows r b N rc on lv ts xs ++ (wHead q h0 h1 h2 h3 r0 r1 r2 r3 gv kv nv wv G T ++ (sr :: ex)))) := by
    rw [hsr]
    exact hO1.perm fun cnt one e1 e2 e3 => by simp only [e1, e2, e3, stepBox]; simp only [List.size_toArray, show (stepCells ⟨11, sa, sb, p, v, n, sn, A, l, cc, zs⟩).length = 8 from rfl]; omega
  have HC : Hid (∀ W2 m, Owns W2 B m → sr ∈ m → W2.cell? ⟨W.heap.size, 3, none⟩ = some (.int .u32 p) ∧ W2.cell? ⟨W.heap.size, 4, none⟩ = some (.int .u32 v) ∧ W2.cell? ⟨W.heap.size, 5, none⟩ = some (.int .i64 n) ∧ W2.cell? ⟨W.heap.size, 7, none⟩ = some (.slice A l cc) ∧ W.heap.size < W2.heap.size) := hide_ fun W2 m h hm => by
    obtain ⟨i, hi⟩ := List.getElem?_of_mem hm
    rw [hsr] at hi
    exact ⟨h.cell (i := i) hi rfl, h.cell (i := i) hi rfl, h.cell (i := i) hi rfl, h.cell (i := i) hi rfl, (h.base (i := i) hi).2⟩
  have c0 : W1.cell? ⟨W.heap.size, 0, none⟩ = some (.int .u8 11) := k0.cell 0
  have HB := hide_ (hW1.mono hB)
  have HB0 := hide_ hB
  have HB1 := hide_ (Nat.le_trans hB hW1.size)
  have HO := hide_ hO2
  have HG := hide_ hG
  have HZ := hide_ (show ∀ W2, Below B W W2 → Reads W2 Bz 1 A l (u8s zs) from fun W2 h => hz.below (h.mono hBz))
  have HW := hide_ hw
  have hl47 : l ≤ 140737488351232 := by omega
  have hzl : zs.length = l := by simpa using hz.1
  have HZL := hide_ hzl
  obtain ⟨c3, c4, c5, c7, cl⟩ := HC.out W1 _ hO2 (by simp)
  obtain ⟨un, hun⟩ : ∃ un : Nat, IntKind.u32.wrap n = (un : Int) := Int.eq_ofNat_of_zero_le (by simp [IntKind.wrap, IntKind.signed, IntKind.bits]; omega)
  have hlt := hlc
  unfold stepCells at *
  have HFIN : Hid (∀ W2 tv' lv' ts' xs', Owns W2 B (refRows r b N rc on lv' ts' xs' ++ (memRows g d N c on tv' ts' xs' ++ (wHead q h0 h1 h2 h3 r0 r1 r2 r3 gv kv nv wv G T ++ (sr :: ex)))) → xs'.length = N → bytesOk xs' → ts'.length ≤ 65536 → WinPost W2 B q h0 h1 h2 h3 r0 r1 r2 r3 nv wv G T g d c r b rc N ex) := hide_ fun W2 tv' lv' ts' xs' h j1 j2 j3 =>
    ⟨gv, kv, [], on, tv', lv', ts', xs', by rw [List.append_nil]; exact h.pick [sr] fun cnt one e1 e2 e3 => by simp only [e1, e2, e3, List.flatMap_nil]; omega, by simp, (fun a h => by cases h), j1, j2, j3⟩
  have HFN : Hid (∀ W2 gv' kv' a tv' lv' ts', Owns W2 B (wHead q h0 h1 h2 h3 r0 r1 r2 r3 gv' kv' nv wv (G ++ [a]) T ++ (refRows r b N rc on lv' ts' xs ++ (memRows g d N c on tv' ts' xs ++ (byteR a.A a.n a.c a.zs :: byteR a.A' a.n a.c' a.zs :: sr :: ex)))) → a.n ≤ 65536 → ts'.length ≤ 65536 → WinPost W2 B q h0 h1 h2 h3 r0 r1 r2 r3 nv wv G T g d c r b rc N ex) := hide_ fun W2 gv' kv' a tv' lv' ts' h j0 j3 =>
    ⟨gv', kv', [a], on, tv', lv', ts', xs, h.pick [sr] fun cnt one e1 e2 e3 => by simp only [e1, e2, e3, List.flatMap_cons, List.flatMap_nil, ansRows]; omega, by simp, fun a' h => by rw [List.mem_singleton.1 h]; exact j0, hl, hok, j3⟩
  have HN := hide_ hN
  have HL := hide_ hl
  have HOK := hide_ hok
  have HOKZ := hide_ hok'
  have HT := hide_ ht
  have hN16 := hN.bd.2
  clear k0 hW1 hO1 hO2 hO hB hG hz hw hzl hok' hN hl hok ht
  have H1 := hide_ (Bytes_any (W := W1) HO.out HN.out.pow)
  have H2 := hide_ (fun (W2 : World) (o co : Nat) (h : Owns W2 B (memRows g d N c on tv ts xs ++ (refRows r b N rc on lv ts xs ++ (wHead q h0 h1 h2 h3 r0 r1 r2 r3 gv kv nv wv G T ++ (sr :: ex))) ++ [byteR (some ⟨o, 0, none⟩) N co xs])) =>
    rAll_any (W := W2) (ex := memRows g d N c on tv ts xs ++ (byteR (some ⟨o, 0, none⟩) N co xs :: (wHead q h0 h1 h2 h3 r0 r1 r2 r3 gv kv nv wv G T ++ (sr :: ex)))) (show Owns W2 B (refRows r b N rc on lv ts xs ++ (memRows g d N c on tv ts xs ++ (byteR (some ⟨o, 0, none⟩) N co xs :: (wHead q h0 h1 h2 h3 r0 r1 r2 r3 gv kv nv wv G T ++ (sr :: ex))))) from h.perm fun cnt one e1 e2 e3 => by simp only [e1, e2, e3]; omega) (by omega))
  go_enter Try.func85, Try.ntmps85
  go_wp2_with fail
  rw [← HW.out]
  go_wp2_with fail
  refine H1.out.mono ?_
  rintro e w9 ⟨o, co, rfl, hown9, hb9⟩
  have hO9 : Owns w9 B (memRows g d N c on tv ts xs ++ (refRows r b N rc on lv ts xs ++ (wHead q h0 h1 h2 h3 r0 r1 r2 r3 gv kv nv wv G T ++ (sr :: ex))) ++ [byteR (some ⟨o, 0, none⟩) N co xs]) := HO.out.push hb9 (r := byteR (some ⟨o, 0, none⟩) N co xs) hown9 HB1.out
  have H2' := hide_ (H2.out _ _ _ hO9)
  have HO9 := hide_ hO9
  have HB9 := hide_ (HB.out.trans (hb9.mono HB1.out))
  clear hO9 hown9 hb9 H1 H2
  go_wp2_with fail
  refine H2'.out.mono ?_
  rintro e w8 ⟨A8, c8, rfl, hown8, hb8⟩
  have hO8 := HO9.out.push hb8 (r := byteR A8 N c8 xs) hown8 (Nat.le_trans HB0.out HB9.out.size)
  have hB8 := HB9.out.trans (hb8.mono (Nat.le_trans HB0.out HB9.out.size))
  have hO8' : Owns w8 B (wHead q h0 h1 h2 h3 r0 r1 r2 r3 gv kv nv wv G T ++ (refRows r b N rc on lv ts xs ++ (memRows g d N c on tv ts xs ++ (byteR (some ⟨o, 0, none⟩) N co xs :: byteR A8 N c8 xs :: sr :: ex)))) :=
    hO8.perm fun cnt one e1 e2 e3 => by simp only [e1, e2, e3]; omega
  have hBy := hide_ (bytes_any (some ⟨o, 0, none⟩) N co A8 c8 xs hO8' (Nat.le_trans HB0.out hB8.size) (by simp) (by simp) hN16 HG.out)
  have HB8 := hide_ hB8
  clear hO8 hO8' hb8 hB8 hown8 H2'
  go_wp2_with fail
  refine hBy.out.mono ?_
  rintro e w7 ⟨rfl, gv', kv', hO7, hb7⟩
  have HO7 := hide_ (HFN.out _ _ _ _ _ _ _ hO7 hN16 HT.out)
  have HB7 := hide_ (HB8.out.trans hb7)
  clear hO7 hb7 hBy
  go_wp2
  go_ret
  exact ⟨by simp, HO7.out, HB7.out⟩
set_option maxRecDepth 100000 in
set_option maxHeartbeats 4000000 in
theorem windows_so (Bz : Nat) (x : StepV) (hd : x.d ≠ 8 ∧ x.d ≠ 9 ∧ x.d ≠ 10 ∧ x.d ≠ 11) (hx : StepOk W Bz x) (hBz : Bz ≤ B) (hO : Owns W B (memRows g d N c on tv ts xs ++ (refRows r b N rc on lv ts xs ++ (wHead q h0 h1 h2 h3 r0 r1 r2 r3 gv kv nv wv G T ++ ex)))) (hB : B ≤ W.heap.size) (hG : G.length ≤ 4398046511104) (hN : IsSeg N) (hl : xs.length = N) (hok : bytesOk xs) (ht : ts.length ≤ 65536) :
    Calls Try.prog 85 #[.pointer (some ⟨q, 0, none⟩), .agg (stepCells x).toArray, .pointer (some ⟨g, 0, none⟩), .pointer (some ⟨r, 0, none⟩)] W fun e W' => e = .returned (.bool true) ∧
      WinPost W' B q h0 h1 h2 h3 r0 r1 r2 r3 nv wv G T g d c r b rc N ex ∧ Below B W W' := by
  obtain ⟨dd, sa, sb, p, v, n, sn, A, l, cc, zs⟩ := x
  obtain ⟨_, _, _, ⟨p0, p1⟩, ⟨v0, v1⟩, ⟨n0, n1⟩, hz, hok', ⟨hlc, hcm⟩⟩ := hx
  simp only at hd
  obtain ⟨g8, g9, g10, g11⟩ := hd
  simp only at p0 p1 v0 v1 n0 n1 hz hok' hlc hcm
  have hW1 : Below W.heap.size W (W.alloc (.cells (stepCells ⟨dd, sa, sb, p, v, n, sn, A, l, cc, zs⟩).toArray 79)) := (Below.refl _ _).alloc (Nat.le_refl _) _
  have hO1 := hO.box 79 (stepCells ⟨dd, sa, sb, p, v, n, sn, A, l, cc, zs⟩).toArray hB (by simp [stepCells, maxLen])
  have k0 : Blk (W.alloc (.cells (stepCells ⟨dd, sa, sb, p, v, n, sn, A, l, cc, zs⟩).toArray 79)) W.heap.size 79 (stepCells ⟨dd, sa, sb, p, v, n, sn, A, l, cc, zs⟩).toArray := Blk.new W _ _
  obtain ⟨W1, hw⟩ : ∃ W1, W1 = W.alloc (.cells (stepCells ⟨dd, sa, sb, p, v, n, sn, A, l, cc, zs⟩).toArray 79) := ⟨_, rfl⟩
  rw [← hw] at hW1 k0 hO1
  obtain ⟨sr, hsr⟩ : ∃ sr : Ro, sr = stepBox W.heap.size ⟨dd, sa, sb, p, v, n, sn, A, l, cc, zs⟩ := ⟨_, rfl⟩
  have hO2 : Owns W1 B (memRows g d N c on tv ts xs ++ (refRows r b N rc on lv ts xs ++ (wHead q h0 h1 h2 h3 r0 r1 r2 r3 gv kv nv wv G T ++ (sr :: ex)))) := by
    rw [hsr]
    exact hO1.perm fun cnt one e1 e2 e3 => by simp only [e1, e2, e3, stepBox]; simp only [List.size_toArray, show (stepCells ⟨dd, sa, sb, p, v, n, sn, A, l, cc, zs⟩).length = 8 from rfl]; omega
  have HC : Hid (∀ W2 m, Owns W2 B m → sr ∈ m → W2.cell? ⟨W.heap.size, 3, none⟩ = some (.int .u32 p) ∧ W2.cell? ⟨W.heap.size, 4, none⟩ = some (.int .u32 v) ∧ W2.cell? ⟨W.heap.size, 5, none⟩ = some (.int .i64 n) ∧ W2.cell? ⟨W.heap.size, 7, none⟩ = some (.slice A l cc) ∧ W.heap.size < W2.heap.size) := hide_ fun W2 m h hm => by
    obtain ⟨i, hi⟩ := List.getElem?_of_mem hm
    rw [hsr] at hi
    exact ⟨h.cell (i := i) hi rfl, h.cell (i := i) hi rfl, h.cell (i := i) hi rfl, h.cell (i := i) hi rfl, (h.base (i := i) hi).2⟩
  have c0 : W1.cell? ⟨W.heap.size, 0, none⟩ = some (.int .u8 dd) := k0.cell 0
  have HB := hide_ (hW1.mono hB)
  have HB0 := hide_ hB
  have HB1 := hide_ (Nat.le_trans hB hW1.size)
  have HO := hide_ hO2
  have HG := hide_ hG
  have HZ := hide_ (show ∀ W2, Below B W W2 → Reads W2 Bz 1 A l (u8s zs) from fun W2 h => hz.below (h.mono hBz))
  have HW := hide_ hw
  have hl47 : l ≤ 140737488351232 := by omega
  have hzl : zs.length = l := by simpa using hz.1
  have HZL := hide_ hzl
  obtain ⟨c3, c4, c5, c7, cl⟩ := HC.out W1 _ hO2 (by simp)
  obtain ⟨un, hun⟩ : ∃ un : Nat, IntKind.u32.wrap n = (un : Int) := Int.eq_ofNat_of_zero_le (by simp [IntKind.wrap, IntKind.signed, IntKind.bits]; omega)
  have hlt := hlc
  unfold stepCells at *
  have HFIN : Hid (∀ W2 tv' lv' ts' xs', Owns W2 B (refRows r b N rc on lv' ts' xs' ++ (memRows g d N c on tv' ts' xs' ++ (wHead q h0 h1 h2 h3 r0 r1 r2 r3 gv kv nv wv G T ++ (sr :: ex)))) → xs'.length = N → bytesOk xs' → ts'.length ≤ 65536 → WinPost W2 B q h0 h1 h2 h3 r0 r1 r2 r3 nv wv G T g d c r b rc N ex) := hide_ fun W2 tv' lv' ts' xs' h j1 j2 j3 =>
    ⟨gv, kv, [], on, tv', lv', ts', xs', by rw [List.append_nil]; exact h.pick [sr] fun cnt one e1 e2 e3 => by simp only [e1, e2, e3, List.flatMap_nil]; omega, by simp, (fun a h => by cases h), j1, j2, j3⟩
  have HFN : Hid (∀ W2 gv' kv' a tv' lv' ts', Owns W2 B (wHead q h0 h1 h2 h3 r0 r1 r2 r3 gv' kv' nv wv (G ++ [a]) T ++ (refRows r b N rc on lv' ts' xs ++ (memRows g d N c on tv' ts' xs ++ (byteR a.A a.n a.c a.zs :: byteR a.A' a.n a.c' a.zs :: sr :: ex)))) → a.n ≤ 65536 → ts'.length ≤ 65536 → WinPost W2 B q h0 h1 h2 h3 r0 r1 r2 r3 nv wv G T g d c r b rc N ex) := hide_ fun W2 gv' kv' a tv' lv' ts' h j0 j3 =>
    ⟨gv', kv', [a], on, tv', lv', ts', xs, h.pick [sr] fun cnt one e1 e2 e3 => by simp only [e1, e2, e3, List.flatMap_cons, List.flatMap_nil, ansRows]; omega, by simp, fun a' h => by rw [List.mem_singleton.1 h]; exact j0, hl, hok, j3⟩
  have HN := hide_ hN
  have HL := hide_ hl
  have HOK := hide_ hok
  have HOKZ := hide_ hok'
  have HT := hide_ ht
  have hN16 := hN.bd.2
  clear k0 hW1 hO1 hO2 hO hB hG hz hw hzl hok' hN hl hok ht
  have e8 : (dd == 8) = false := by simp [g8]
  have e9 : (dd == 9) = false := by simp [g9]
  have e10 : (dd == 10) = false := by simp [g10]
  have e11 : (dd == 11) = false := by simp [g11]
  clear g8 g9 g10 g11
  go_enter Try.func85, Try.ntmps85
  go_wp2_with fail
  rw [← HW.out]
  go_wp2
  go_ret
  exact ⟨rfl, HFIN.out _ _ _ _ _ HO.out.turned HL.out HOK.out HT.out, HB.out⟩
set_option maxRecDepth 100000 in
set_option maxHeartbeats 4000000 in
theorem windows_some (Bz : Nat) (x : StepV) (hx : StepOk W Bz x) (hBz : Bz ≤ B) (hO : Owns W B (memRows g d N c on tv ts xs ++ (refRows r b N rc on lv ts xs ++ (wHead q h0 h1 h2 h3 r0 r1 r2 r3 gv kv nv wv G T ++ ex)))) (hB : B ≤ W.heap.size) (hG : G.length ≤ 4398046511104) (hN : IsSeg N) (hl : xs.length = N) (hok : bytesOk xs) (ht : ts.length ≤ 65536) :
    Calls Try.prog 85 #[.pointer (some ⟨q, 0, none⟩), .agg (stepCells x).toArray, .pointer (some ⟨g, 0, none⟩), .pointer (some ⟨r, 0, none⟩)] W fun e W' => e = .returned (.bool true) ∧
      WinPost W' B q h0 h1 h2 h3 r0 r1 r2 r3 nv wv G T g d c r b rc N ex ∧ Below B W W' := by
  by_cases h8 : x.d = 8
  · exact windows_s8 Bz x h8 hx hBz hO hB hG hN hl hok ht
  by_cases h9 : x.d = 9
  · exact windows_s9 Bz x h9 hx hBz hO hB hG hN hl hok ht
  by_cases h10 : x.d = 10
  · exact windows_s10 Bz x h10 hx hBz hO hB hG hN hl hok ht
  by_cases h11 : x.d = 11
  · exact windows_s11 Bz x h11 hx hBz hO hB hG hN hl hok ht
  exact windows_so Bz x ⟨h8, h9, h10, h11⟩ hx hBz hO hB hG hN hl hok ht
end
end Go.Proofs.Ytgppbdcnpailaaa
