/-
  The walk of playpenlaw09's step.
-/
import Derived.Deep.RegionHeld3
import Derived.Test.YtgppbdcnpailaaaStepK
namespace Go.Proofs.Ytgppbdcnpailaaa
open Go.RowKit
set_option linter.unusedVariables false
set_option linter.unusedSimpArgs false

theorem wpAnyH_mono {P : Program} {md : Region.Mode} {ops : Array Oper} {Q : Exit → Act → World → Prop} {S S' : World → Prop} (h : ∀ w, S' w → S w) :
    ∀ (fuel : Nat) (listed : Array Bool) (a : Act) (w : World), wpAnyH P md ops Q S' fuel listed a w → wpAnyH P md ops Q S fuel listed a w
  | 0, _, _, _, h' => h'
  | fuel + 1, _, _, _, h' => ⟨h'.1, fun i hi => wpOp_mono (fun a' w' h2 => ⟨h _ h2.1, wpAnyH_mono h fuel _ a' w' h2.2⟩) (h'.2 i hi)⟩
section
variable {W : World} {B q k : Nat} {st : WS} {ex : List Ro}
theorem Inv.drewN (h : Inv W B q k st ex) (n : Nat) : Inv (W.drewN n) B q k st ex := ⟨h.own.drewN n, h.base, h.len, h.ok, h.gl, h.tl, h.ga, h.ta⟩
theorem Inv.drew (h : Inv W B q k st ex) : Inv W.drew B q k st ex := ⟨h.own.drew, h.base, h.len, h.ok, h.gl, h.tl, h.ga, h.ta⟩
theorem Inv.more (h : Inv W B q k st ex) {ex' : List Ro} (hp : Owns W B (wHeadL q (ptrs st.S) st.gv st.kv st.nv st.wv st.G st.T ++ (st.G.flatMap ansRows ++ (st.T.flatMap noteRows ++ (st.S.flatMap slotRows ++ ex'))))) : Inv W B q k st ex' := ⟨hp, h.base, h.len, h.ok, h.gl, h.tl, h.ga, h.ta⟩
theorem Inv.box (h : Inv W B q k st ex) (x : StepV) : Inv (W.alloc (.cells (stepCells x).toArray 79)) B q k st (stepBox W.heap.size x :: ex) := by
  have h1 := h.own.box 79 (stepCells x).toArray h.base (by simp [stepCells, maxLen])
  refine ⟨h1.perm fun cnt one e1 e2 e3 => ?_, Nat.le_trans h.base (by simp), h.len, h.ok, h.gl, h.tl, h.ga, h.ta⟩
  simp only [e1, e2, e3, stepBox, List.size_toArray, show (stepCells x).length = 8 from rfl]
  omega
theorem Inv.drop {r : Ro} (h : Inv W B q k st (r :: ex)) : Inv W B q k st ex := h.more (h.own.pick [r] fun cnt one e1 e2 e3 => by simp only [e1, e2, e3]; omega)
set_option maxRecDepth 100000 in
set_option maxHeartbeats 2000000 in
theorem step_any (x : StepV) (Bz : Nat) (hx : StepOk W Bz x) (hBz : Bz ≤ B) (h : Inv W B q k st ex) (hk : k ≤ 4398046511100) (na nb : Nat) (hna : x.a % 4 = (na : Int)) (hnb : x.b % 4 = (nb : Int)) :
    Calls Try.prog 52 #[.pointer (some ⟨q, 0, none⟩), .agg (stepCells x).toArray] W fun e W' => e = .returned (.bool true) ∧
      (∃ st', Inv W' B q (k + 1) st' ex ∧ (x.d = 0 → 8 ≤ x.n → x.n ≤ 16 → ∃ sv, st'.S[na]? = some (some sv))) ∧ Below B W W' := by
  obtain ⟨sr, hsr⟩ : ∃ sr : Ro, sr = stepBox W.heap.size x := ⟨_, rfl⟩
  have hI := h.box x
  rw [← hsr] at hI
  have hna4 : na < 4 := by omega
  have hnb4 : nb < 4 := by omega
  obtain ⟨dd, sa, sb, p, v, n, sn, A, l, cc, zs⟩ := x
  have hx' := hx
  obtain ⟨⟨d0, d1⟩, ⟨a0, a1⟩, ⟨b0, b1⟩, _, _, _, _, _, _⟩ := hx'
  simp only at hna hnb a0 a1 b0 b1
  have hW1 : Below B W (W.alloc (.cells (stepCells ⟨dd, sa, sb, p, v, n, sn, A, l, cc, zs⟩).toArray 79)) := (Below.refl _ _).alloc h.base _
  have HC : Hid (∀ W2 m, Owns W2 B m → sr ∈ m → (W2.cell? ⟨W.heap.size, 0, none⟩ = some (.int .u8 dd) ∧ W2.cell? ⟨W.heap.size, 1, none⟩ = some (.int .u8 sa) ∧ W2.cell? ⟨W.heap.size, 2, none⟩ = some (.int .u8 sb) ∧ W2.cell? ⟨W.heap.size, 3, none⟩ = some (.int .u32 p)) ∧
      (W2.cell? ⟨W.heap.size, 4, none⟩ = some (.int .u32 v) ∧ W2.cell? ⟨W.heap.size, 5, none⟩ = some (.int .i64 n) ∧ W2.cell? ⟨W.heap.size, 6, none⟩ = some (.bool sn) ∧ W2.cell? ⟨W.heap.size, 7, none⟩ = some (.slice A l cc)) ∧ W.heap.size < W2.heap.size) := hide_ fun W2 m h hm => by
    obtain ⟨i, hi⟩ := List.getElem?_of_mem hm
    rw [hsr] at hi
    exact ⟨⟨h.cell (i := i) hi rfl, h.cell (i := i) hi rfl, h.cell (i := i) hi rfl, h.cell (i := i) hi rfl⟩, ⟨h.cell (i := i) hi rfl, h.cell (i := i) hi rfl, h.cell (i := i) hi rfl, h.cell (i := i) hi rfl⟩, (h.base (i := i) hi).2⟩
  have HM : Hid (∀ W2, Below B W W2 → Inv W2 B q k st (sr :: ex) → Calls Try.prog 83 #[.pointer (some ⟨q, 0, none⟩), .agg (stepCells ⟨dd, sa, sb, p, v, n, sn, A, l, cc, zs⟩).toArray, .int .i64 na, .int .i64 nb] W2 fun e W' => e = .returned (.bool true) ∧
      (∃ st', Inv W' B q k st' (sr :: ex) ∧ (dd = 0 → 8 ≤ n → n ≤ 16 → ∃ sv, st'.S[na]? = some (some sv))) ∧ Below B W2 W') := hide_ fun W2 hb hi => make_inv Bz _ (hx.below (hb.mono hBz)) hBz na nb hna4 hnb4 hi
  have HWO : Hid (∀ W2 st s, Below B W W2 → Inv W2 B q k st (sr :: ex) → st.S[na]? = some s → Calls Try.prog 84 #[.pointer (some ⟨q, 0, none⟩), .agg (stepCells ⟨dd, sa, sb, p, v, n, sn, A, l, cc, zs⟩).toArray, .pointer (mA s), .pointer (rA s)] W2 fun e W' => e = .returned (.bool true) ∧
      (∃ st' s', Inv W' B q k st' (sr :: ex) ∧ st'.S[na]? = some s' ∧ mA s' = mA s ∧ rA s' = rA s) ∧ Below B W2 W') := hide_ fun W2 st s hb hi hs => words_inv _ _ Bz (hx.below (hb.mono hBz)) hBz na hna4 hi s hs
  have HWI : Hid (∀ W2 st s, Below B W W2 → Inv W2 B q k st (sr :: ex) → st.S[na]? = some s → Calls Try.prog 85 #[.pointer (some ⟨q, 0, none⟩), .agg (stepCells ⟨dd, sa, sb, p, v, n, sn, A, l, cc, zs⟩).toArray, .pointer (mA s), .pointer (rA s)] W2 fun e W' => e = .returned (.bool true) ∧
      (∃ st' s', Inv W' B q (k + 1) st' (sr :: ex) ∧ st'.T = st.T ∧ st'.S[na]? = some s' ∧ mA s' = mA s ∧ rA s' = rA s) ∧ Below B W2 W') := hide_ fun W2 st s hb hi hs => windows_inv _ Bz (hx.below (hb.mono hBz)) hBz na hna4 hi (by omega) s hs
  have HRE : Hid (∀ W2 st, Below B W W2 → Inv W2 B q (k + 1) st (sr :: ex) → st.T.length ≤ k → Calls Try.prog 86 #[.pointer (some ⟨q, 0, none⟩), .agg (stepCells ⟨dd, sa, sb, p, v, n, sn, A, l, cc, zs⟩).toArray, .int .i64 na, .int .i64 nb] W2 fun e W' => e = .returned (.bool true) ∧
      (∃ st', Inv W' B q (k + 1) st' (sr :: ex) ∧ ∀ s, st.S[na]? = some s → ∃ s', st'.S[na]? = some s' ∧ mA s' = mA s ∧ rA s' = rA s) ∧ Below B W2 W') := hide_ fun W2 st hb hi ht => rest_inv _ Bz (hx.below (hb.mono hBz)) hBz na nb hna4 hnb4 hi k ht (by omega) (Nat.le_refl _)
  obtain ⟨⟨c0, c1, c2, c3⟩, ⟨c4, c5, c6, c7⟩, cl⟩ := HC.out _ _ hI.own (by simp)
  have HCC : Hid (∀ W2 m, Owns W2 B m → sr ∈ m → W2.cell? ⟨W.heap.size, 0, none⟩ = some (.int .u8 dd) ∧ W2.cell? ⟨W.heap.size, 1, none⟩ = some (.int .u8 sa) ∧ W2.cell? ⟨W.heap.size, 2, none⟩ = some (.int .u8 sb) ∧ W2.cell? ⟨W.heap.size, 3, none⟩ = some (.int .u32 p) ∧
      W2.cell? ⟨W.heap.size, 4, none⟩ = some (.int .u32 v) ∧ W2.cell? ⟨W.heap.size, 5, none⟩ = some (.int .i64 n) ∧ W2.cell? ⟨W.heap.size, 6, none⟩ = some (.bool sn) ∧ W2.cell? ⟨W.heap.size, 7, none⟩ = some (.slice A l cc)) := hide_ fun W2 m h hm => by
    obtain ⟨⟨y0, y1, y2, y3⟩, ⟨y4, y5, y6, y7⟩, yl⟩ := HC.out W2 m h hm
    exact ⟨y0, y1, y2, y3, y4, y5, y6, y7⟩
  have HK1 := hide_ (HCC.out _ _ hI.own (by simp))
  have HI := hide_ hI
  have HB := hide_ hW1
  have i1 : (na : Int) < 4 := by omega
  have i0 : (0 : Int) ≤ (na : Int) := by omega
  have j1 : (nb : Int) < 4 := by omega
  have j0 : (0 : Int) ≤ (nb : Int) := by omega
  unfold stepCells at *
  clear h hI hx hsr hW1
  go_enter Try.func52, Try.ntmps52
  go_wp2
  refine wp_region_held_drew (S := (fun W' : World => W'.cell? ⟨W.heap.size, 0, none⟩ = some (.int .u8 dd) ∧ W'.cell? ⟨W.heap.size, 1, none⟩ = some (.int .u8 sa) ∧ W'.cell? ⟨W.heap.size, 2, none⟩ = some (.int .u8 sb) ∧ W'.cell? ⟨W.heap.size, 3, none⟩ = some (.int .u32 p) ∧ W'.cell? ⟨W.heap.size, 4, none⟩ = some (.int .u32 v) ∧ W'.cell? ⟨W.heap.size, 5, none⟩ = some (.int .i64 n) ∧ W'.cell? ⟨W.heap.size, 6, none⟩ = some (.bool sn) ∧ W'.cell? ⟨W.heap.size, 7, none⟩ = some (.slice A l cc))) (by kernel_rfl) HK1.out (fun hHeld => ?_)
  refine wpAnyH_take (i := 0) (oi := { dst := some 15, op := Op.move (Operand.tmp 0), type := 136, pos := "law.go:180", after := #[], guard := none }) (v := ?_) rfl (by kernel_rfl) (by kernel_rfl) (by kernel_rfl) (fun _ _ _ h => h) (Or.inl ⟨by rfl, ?_⟩) (by assumption) ?_
  rotate_left
  · intro w hSw
    (try dsimp only at hSw)
    go_simp
    all_goals (try with_reducible rfl)
  try simp only [Act.put, List.setIfInBounds_toArray, List.set_cons_zero, List.set_cons_succ]
  refine wpAnyH_take (i := 1) (oi := { dst := some 16, op := Op.load 79 (Operand.tmp 3), type := 79, pos := "law.go:180", after := #[], guard := none }) (v := ?_) rfl (by kernel_rfl) (by kernel_rfl) (by kernel_rfl) (fun _ _ _ h => h) (Or.inl ⟨by rfl, ?_⟩) (by assumption) ?_
  rotate_left
  · intro w hSw
    (try dsimp only at hSw)
    go_simp
    all_goals (try with_reducible rfl)
  try simp only [Act.put, List.setIfInBounds_toArray, List.set_cons_zero, List.set_cons_succ]
  refine wpAnyH_take (i := 2) (oi := { dst := some 17, op := Op.move (Operand.tmp 5), type := 3, pos := "law.go:180", after := #[], guard := none }) (v := ?_) rfl (by kernel_rfl) (by kernel_rfl) (by kernel_rfl) (fun _ _ _ h => h) (Or.inl ⟨by rfl, ?_⟩) (by assumption) ?_
  rotate_left
  · intro w hSw
    (try dsimp only at hSw)
    go_simp
    all_goals (try with_reducible rfl)
  try simp only [Act.put, List.setIfInBounds_toArray, List.set_cons_zero, List.set_cons_succ]
  refine wpAnyH_take (i := 3) (oi := { dst := some 18, op := Op.move (Operand.tmp 6), type := 3, pos := "law.go:180", after := #[], guard := none }) (v := ?_) rfl (by kernel_rfl) (by kernel_rfl) (by kernel_rfl) (fun _ _ _ h => h) (Or.inl ⟨by rfl, ?_⟩) (by assumption) ?_
  rotate_left
  · intro w hSw
    (try dsimp only at hSw)
    go_simp
    all_goals (try with_reducible rfl)
  try simp only [Act.put, List.setIfInBounds_toArray, List.set_cons_zero, List.set_cons_succ]
  refine wpAnyH_ready (rs := [4]) (by kernel_rfl) (by simp) ?_
  refine AllReadyH.cons rfl (fun K hK => ?_) ?_
  rotate_left
  · exact AllReadyH.nil
  go_simp
  refine (HM.out _ (by exact HB.out.drew) (by exact HI.out.drew)).mono ?_
  rintro e w3 ⟨rfl, ⟨st3, hI3, hin3⟩, hb3⟩
  obtain ⟨s3, hs3⟩ := slot_some hI3.len hna4
  obtain ⟨t1, t2, t3⟩ := hI3.cells hs3
  have HK3 := hide_ (And.intro (HCC.out _ _ hI3.own (by simp)) (And.intro t1 t2))
  have HI3 := hide_ hI3
  have HB3 : Hid (Below B W w3) := hide_ (HB.out.drew.trans hb3)
  have HIN := hide_ hin3
  have HS3 := hide_ hs3
  clear hI3 hb3 hin3 hs3
  go_wp2_with fail
  refine hK.out _ _ HK3.out.1 (fun hHeld' => ?_)
  clear hHeld hK K
  try simp only [Act.put, List.setIfInBounds_toArray, List.set_cons_zero, List.set_cons_succ]
  refine wpAnyH_mono (S' := (fun W' : World => (W'.cell? ⟨W.heap.size, 0, none⟩ = some (.int .u8 dd) ∧ W'.cell? ⟨W.heap.size, 1, none⟩ = some (.int .u8 sa) ∧ W'.cell? ⟨W.heap.size, 2, none⟩ = some (.int .u8 sb) ∧ W'.cell? ⟨W.heap.size, 3, none⟩ = some (.int .u32 p) ∧ W'.cell? ⟨W.heap.size, 4, none⟩ = some (.int .u32 v) ∧ W'.cell? ⟨W.heap.size, 5, none⟩ = some (.int .i64 n) ∧ W'.cell? ⟨W.heap.size, 6, none⟩ = some (.bool sn) ∧ W'.cell? ⟨W.heap.size, 7, none⟩ = some (.slice A l cc)) ∧ W'.cell? ⟨q, na, none⟩ = some (.pointer (mA s3)) ∧ W'.cell? ⟨q, 4 + na, none⟩ = some (.pointer (rA s3)))) (fun W' h => h.1) _ _ _ _ ?_
  have hHeld := HK3.out
  refine wpAnyH_take (i := 5) (oi := { dst := some 20, op := Op.unOp UnOp.not 4 (Operand.tmp 19), type := 4, pos := "law.go:180", after := #[{ on := 4, ground := Ground.data }], guard := none }) (v := ?_) rfl (by kernel_rfl) (by kernel_rfl) (by kernel_rfl) (fun _ _ _ h => h) (Or.inl ⟨by rfl, ?_⟩) (by assumption) ?_
  rotate_left
  · intro w hSw
    (try dsimp only at hSw)
    go_simp
    all_goals (try with_reducible rfl)
  try simp only [Act.put, List.setIfInBounds_toArray, List.set_cons_zero, List.set_cons_succ]
  refine wpAnyH_take (i := 6) (oi := { dst := some 21, op := Op.move (Operand.tmp 20), type := 4, pos := "law.go:180", after := #[{ on := 5, ground := Ground.data }, { on := 4, ground := Ground.chain }], guard := none }) (v := ?_) rfl (by kernel_rfl) (by kernel_rfl) (by kernel_rfl) (fun _ _ _ h => h) (Or.inl ⟨by rfl, ?_⟩) (by assumption) ?_
  rotate_left
  · intro w hSw
    (try dsimp only at hSw)
    go_simp
    all_goals (try with_reducible rfl)
  try simp only [Act.put, List.setIfInBounds_toArray, List.set_cons_zero, List.set_cons_succ]
  refine wpAnyH_take (i := 7) (oi := { dst := some 22, op := Op.move (Operand.tmp 0), type := 136, pos := "law.go:180", after := #[{ on := 6, ground := Ground.guard }], guard := some (6, false) }) (v := ?_) rfl (by kernel_rfl) (by kernel_rfl) (by kernel_rfl) (fun _ _ _ h => h) (Or.inl ⟨by rfl, ?_⟩) (by assumption) ?_
  rotate_left
  · intro w hSw
    (try dsimp only at hSw)
    go_simp
    all_goals (try with_reducible rfl)
  try simp only [Act.put, List.setIfInBounds_toArray, List.set_cons_zero, List.set_cons_succ]
  refine wpAnyH_take (i := 8) (oi := { dst := some 23, op := Op.load 79 (Operand.tmp 3), type := 79, pos := "law.go:180", after := #[{ on := 6, ground := Ground.guard }], guard := some (6, false) }) (v := ?_) rfl (by kernel_rfl) (by kernel_rfl) (by kernel_rfl) (fun _ _ _ h => h) (Or.inl ⟨by rfl, ?_⟩) (by assumption) ?_
  rotate_left
  · intro w hSw
    (try dsimp only at hSw)
    go_simp
    all_goals (try with_reducible rfl)
  try simp only [Act.put, List.setIfInBounds_toArray, List.set_cons_zero, List.set_cons_succ]
  refine wpAnyH_take (i := 9) (oi := { dst := some 24, op := Op.move (Operand.tmp 0), type := 136, pos := "law.go:180", after := #[{ on := 6, ground := Ground.guard }], guard := some (6, false) }) (v := ?_) rfl (by kernel_rfl) (by kernel_rfl) (by kernel_rfl) (fun _ _ _ h => h) (Or.inl ⟨by rfl, ?_⟩) (by assumption) ?_
  rotate_left
  · intro w hSw
    (try dsimp only at hSw)
    go_simp
    all_goals (try with_reducible rfl)
  try simp only [Act.put, List.setIfInBounds_toArray, List.set_cons_zero, List.set_cons_succ]
  refine wpAnyH_take (i := 10) (oi := { dst := some 25, op := Op.move (Operand.tmp 5), type := 3, pos := "law.go:180", after := #[{ on := 6, ground := Ground.guard }], guard := some (6, false) }) (v := ?_) rfl (by kernel_rfl) (by kernel_rfl) (by kernel_rfl) (fun _ _ _ h => h) (Or.inl ⟨by rfl, ?_⟩) (by assumption) ?_
  rotate_left
  · intro w hSw
    (try dsimp only at hSw)
    go_simp
    all_goals (try with_reducible rfl)
  try simp only [Act.put, List.setIfInBounds_toArray, List.set_cons_zero, List.set_cons_succ]
  refine wpAnyH_take (i := 11) (oi := { dst := some 26, op := Op.nilCheck (Operand.tmp 24), type := 0, pos := "law.go:180", after := #[{ on := 9, ground := Ground.data }, { on := 6, ground := Ground.guard }], guard := some (6, false) }) (v := ?_) rfl (by kernel_rfl) (by kernel_rfl) (by kernel_rfl) (fun _ _ _ h => h) (Or.inl ⟨by rfl, ?_⟩) (by assumption) ?_
  rotate_left
  · intro w hSw
    (try dsimp only at hSw)
    go_simp
    all_goals (try with_reducible rfl)
  try simp only [Act.put, List.setIfInBounds_toArray, List.set_cons_zero, List.set_cons_succ]
  refine wpAnyH_take (i := 12) (oi := { dst := some 27, op := Op.fieldAddr 89 (Operand.tmp 26) 0, type := 0, pos := "law.go:180", after := #[{ on := 11, ground := Ground.data }, { on := 6, ground := Ground.guard }], guard := some (6, false) }) (v := ?_) rfl (by kernel_rfl) (by kernel_rfl) (by kernel_rfl) (fun _ _ _ h => h) (Or.inl ⟨by rfl, ?_⟩) (by assumption) ?_
  rotate_left
  · intro w hSw
    (try dsimp only at hSw)
    go_simp
    all_goals (try with_reducible rfl)
  try simp only [Act.put, List.setIfInBounds_toArray, List.set_cons_zero, List.set_cons_succ]
  refine wpAnyH_take (i := 13) (oi := { dst := some 28, op := Op.indexAddr 84 (Operand.tmp 27) (Operand.tmp 25), type := 0, pos := "law.go:180", after := #[{ on := 12, ground := Ground.data }, { on := 10, ground := Ground.data }, { on := 6, ground := Ground.guard }], guard := some (6, false) }) (v := ?_) rfl (by kernel_rfl) (by kernel_rfl) (by kernel_rfl) (fun _ _ _ h => h) (Or.inl ⟨by rfl, ?_⟩) (by assumption) ?_
  rotate_left
  · intro w hSw
    (try dsimp only at hSw)
    go_simp
    all_goals (try with_reducible rfl)
  try simp only [Act.put, List.setIfInBounds_toArray, List.set_cons_zero, List.set_cons_succ]
  refine wpAnyH_take (i := 14) (oi := { dst := some 29, op := Op.load 48 (Operand.tmp 28), type := 48, pos := "law.go:180", after := #[{ on := 13, ground := Ground.data }, { on := 6, ground := Ground.guard }], guard := some (6, false) }) (v := ?_) rfl (by kernel_rfl) (by kernel_rfl) (by kernel_rfl) (fun _ _ _ h => h) (Or.inl ⟨by rfl, ?_⟩) (by assumption) ?_
  rotate_left
  · intro w hSw
    (try dsimp only at hSw)
    go_simp
    all_goals (try with_reducible rfl)
  try simp only [Act.put, List.setIfInBounds_toArray, List.set_cons_zero, List.set_cons_succ]
  refine wpAnyH_take (i := 15) (oi := { dst := some 30, op := Op.move (Operand.tmp 0), type := 136, pos := "law.go:180", after := #[{ on := 6, ground := Ground.guard }], guard := some (6, false) }) (v := ?_) rfl (by kernel_rfl) (by kernel_rfl) (by kernel_rfl) (fun _ _ _ h => h) (Or.inl ⟨by rfl, ?_⟩) (by assumption) ?_
  rotate_left
  · intro w hSw
    (try dsimp only at hSw)
    go_simp
    all_goals (try with_reducible rfl)
  try simp only [Act.put, List.setIfInBounds_toArray, List.set_cons_zero, List.set_cons_succ]
  refine wpAnyH_take (i := 16) (oi := { dst := some 31, op := Op.move (Operand.tmp 5), type := 3, pos := "law.go:180", after := #[{ on := 6, ground := Ground.guard }], guard := some (6, false) }) (v := ?_) rfl (by kernel_rfl) (by kernel_rfl) (by kernel_rfl) (fun _ _ _ h => h) (Or.inl ⟨by rfl, ?_⟩) (by assumption) ?_
  rotate_left
  · intro w hSw
    (try dsimp only at hSw)
    go_simp
    all_goals (try with_reducible rfl)
  try simp only [Act.put, List.setIfInBounds_toArray, List.set_cons_zero, List.set_cons_succ]
  refine wpAnyH_take (i := 17) (oi := { dst := some 32, op := Op.nilCheck (Operand.tmp 30), type := 0, pos := "law.go:180", after := #[{ on := 15, ground := Ground.data }, { on := 6, ground := Ground.guard }], guard := some (6, false) }) (v := ?_) rfl (by kernel_rfl) (by kernel_rfl) (by kernel_rfl) (fun _ _ _ h => h) (Or.inl ⟨by rfl, ?_⟩) (by assumption) ?_
  rotate_left
  · intro w hSw
    (try dsimp only at hSw)
    go_simp
    all_goals (try with_reducible rfl)
  try simp only [Act.put, List.setIfInBounds_toArray, List.set_cons_zero, List.set_cons_succ]
  refine wpAnyH_take (i := 18) (oi := { dst := some 33, op := Op.fieldAddr 89 (Operand.tmp 32) 1, type := 0, pos := "law.go:180", after := #[{ on := 17, ground := Ground.data }, { on := 6, ground := Ground.guard }], guard := some (6, false) }) (v := ?_) rfl (by kernel_rfl) (by kernel_rfl) (by kernel_rfl) (fun _ _ _ h => h) (Or.inl ⟨by rfl, ?_⟩) (by assumption) ?_
  rotate_left
  · intro w hSw
    (try dsimp only at hSw)
    go_simp
    all_goals (try with_reducible rfl)
  try simp only [Act.put, List.setIfInBounds_toArray, List.set_cons_zero, List.set_cons_succ]
  refine wpAnyH_take (i := 19) (oi := { dst := some 34, op := Op.indexAddr 86 (Operand.tmp 33) (Operand.tmp 31), type := 0, pos := "law.go:180", after := #[{ on := 18, ground := Ground.data }, { on := 16, ground := Ground.data }, { on := 6, ground := Ground.guard }], guard := some (6, false) }) (v := ?_) rfl (by kernel_rfl) (by kernel_rfl) (by kernel_rfl) (fun _ _ _ h => h) (Or.inl ⟨by rfl, ?_⟩) (by assumption) ?_
  rotate_left
  · intro w hSw
    (try dsimp only at hSw)
    go_simp
    all_goals (try with_reducible rfl)
  try simp only [Act.put, List.setIfInBounds_toArray, List.set_cons_zero, List.set_cons_succ]
  refine wpAnyH_take (i := 20) (oi := { dst := some 35, op := Op.load 85 (Operand.tmp 34), type := 85, pos := "law.go:180", after := #[{ on := 19, ground := Ground.data }, { on := 6, ground := Ground.guard }], guard := some (6, false) }) (v := ?_) rfl (by kernel_rfl) (by kernel_rfl) (by kernel_rfl) (fun _ _ _ h => h) (Or.inl ⟨by rfl, ?_⟩) (by assumption) ?_
  rotate_left
  · intro w hSw
    (try dsimp only at hSw)
    go_simp
    all_goals (try with_reducible rfl)
  try simp only [Act.put, List.setIfInBounds_toArray, List.set_cons_zero, List.set_cons_succ]
  refine wpAnyH_ready (rs := [21]) (by kernel_rfl) (by simp) ?_
  refine AllReadyH.cons rfl (fun K hK => ?_) ?_
  rotate_left
  · exact AllReadyH.nil
  go_simp
  refine (HWO.out _ st3 s3 HB3.out HI3.out HS3.out).mono ?_
  rintro e w4 ⟨rfl, ⟨st4, s4, hI4, hs4, he4, hf4⟩, hb4⟩
  obtain ⟨u1, u2, u3⟩ := hI4.cells hs4
  rw [he4] at u1
  rw [hf4] at u2
  have HK4 := hide_ (And.intro (HCC.out _ _ hI4.own (by simp)) (And.intro u1 u2))
  have HI4 := hide_ hI4
  have HB4 : Hid (Below B W w4) := hide_ (HB3.out.trans hb4)
  have HS4 := hide_ hs4
  have HE4 := hide_ (And.intro he4 hf4)
  clear hI4 hb4 hs4 he4 hf4
  go_wp2_with fail
  refine hK.out _ _ HK4.out (fun hHeld' => ?_)
  clear hHeld hK K
  try simp only [Act.put, List.setIfInBounds_toArray, List.set_cons_zero, List.set_cons_succ]
  have hHeld := HK4.out
  refine wpAnyH_take (i := 22) (oi := { dst := some 37, op := Op.unOp UnOp.not 4 (Operand.tmp 36), type := 4, pos := "law.go:180", after := #[{ on := 21, ground := Ground.data }, { on := 6, ground := Ground.guard }], guard := some (6, false) }) (v := ?_) rfl (by kernel_rfl) (by kernel_rfl) (by kernel_rfl) (fun _ _ _ h => h) (Or.inl ⟨by rfl, ?_⟩) (by assumption) ?_
  rotate_left
  · intro w hSw
    (try dsimp only at hSw)
    go_simp
    all_goals (try with_reducible rfl)
  try simp only [Act.put, List.setIfInBounds_toArray, List.set_cons_zero, List.set_cons_succ]
  refine wpAnyH_take (i := 23) (oi := { dst := some 38, op := Op.pick (Operand.tmp 21) (Operand.const (Value.bool true)) (Operand.tmp 37), type := 4, pos := "law.go:180", after := #[{ on := 6, ground := Ground.data }, { on := 22, ground := Ground.data }], guard := none }) (v := ?_) rfl (by kernel_rfl) (by kernel_rfl) (by kernel_rfl) (fun _ _ _ h => h) (Or.inl ⟨by rfl, ?_⟩) (by assumption) ?_
  rotate_left
  · intro w hSw
    (try dsimp only at hSw)
    go_simp
    all_goals (try with_reducible rfl)
  try simp only [Act.put, List.setIfInBounds_toArray, List.set_cons_zero, List.set_cons_succ]
  refine wpAnyH_take (i := 24) (oi := { dst := some 39, op := Op.move (Operand.tmp 38), type := 4, pos := "law.go:180", after := #[{ on := 23, ground := Ground.data }, { on := 21, ground := Ground.chain }], guard := none }) (v := ?_) rfl (by kernel_rfl) (by kernel_rfl) (by kernel_rfl) (fun _ _ _ h => h) (Or.inl ⟨by rfl, ?_⟩) (by assumption) ?_
  rotate_left
  · intro w hSw
    (try dsimp only at hSw)
    go_simp
    all_goals (try with_reducible rfl)
  try simp only [Act.put, List.setIfInBounds_toArray, List.set_cons_zero, List.set_cons_succ]
  refine wpAnyH_take (i := 25) (oi := { dst := some 40, op := Op.move (Operand.tmp 0), type := 136, pos := "law.go:180", after := #[{ on := 24, ground := Ground.guard }], guard := some (24, false) }) (v := ?_) rfl (by kernel_rfl) (by kernel_rfl) (by kernel_rfl) (fun _ _ _ h => h) (Or.inl ⟨by rfl, ?_⟩) (by assumption) ?_
  rotate_left
  · intro w hSw
    (try dsimp only at hSw)
    go_simp
    all_goals (try with_reducible rfl)
  try simp only [Act.put, List.setIfInBounds_toArray, List.set_cons_zero, List.set_cons_succ]
  refine wpAnyH_take (i := 26) (oi := { dst := some 41, op := Op.load 79 (Operand.tmp 3), type := 79, pos := "law.go:180", after := #[{ on := 24, ground := Ground.guard }], guard := some (24, false) }) (v := ?_) rfl (by kernel_rfl) (by kernel_rfl) (by kernel_rfl) (fun _ _ _ h => h) (Or.inl ⟨by rfl, ?_⟩) (by assumption) ?_
  rotate_left
  · intro w hSw
    (try dsimp only at hSw)
    go_simp
    all_goals (try with_reducible rfl)
  try simp only [Act.put, List.setIfInBounds_toArray, List.set_cons_zero, List.set_cons_succ]
  refine wpAnyH_take (i := 27) (oi := { dst := some 42, op := Op.move (Operand.tmp 0), type := 136, pos := "law.go:180", after := #[{ on := 24, ground := Ground.guard }], guard := some (24, false) }) (v := ?_) rfl (by kernel_rfl) (by kernel_rfl) (by kernel_rfl) (fun _ _ _ h => h) (Or.inl ⟨by rfl, ?_⟩) (by assumption) ?_
  rotate_left
  · intro w hSw
    (try dsimp only at hSw)
    go_simp
    all_goals (try with_reducible rfl)
  try simp only [Act.put, List.setIfInBounds_toArray, List.set_cons_zero, List.set_cons_succ]
  refine wpAnyH_take (i := 28) (oi := { dst := some 43, op := Op.move (Operand.tmp 5), type := 3, pos := "law.go:180", after := #[{ on := 24, ground := Ground.guard }], guard := some (24, false) }) (v := ?_) rfl (by kernel_rfl) (by kernel_rfl) (by kernel_rfl) (fun _ _ _ h => h) (Or.inl ⟨by rfl, ?_⟩) (by assumption) ?_
  rotate_left
  · intro w hSw
    (try dsimp only at hSw)
    go_simp
    all_goals (try with_reducible rfl)
  try simp only [Act.put, List.setIfInBounds_toArray, List.set_cons_zero, List.set_cons_succ]
  refine wpAnyH_take (i := 29) (oi := { dst := some 44, op := Op.nilCheck (Operand.tmp 42), type := 0, pos := "law.go:180", after := #[{ on := 27, ground := Ground.data }, { on := 24, ground := Ground.guard }], guard := some (24, false) }) (v := ?_) rfl (by kernel_rfl) (by kernel_rfl) (by kernel_rfl) (fun _ _ _ h => h) (Or.inl ⟨by rfl, ?_⟩) (by assumption) ?_
  rotate_left
  · intro w hSw
    (try dsimp only at hSw)
    go_simp
    all_goals (try with_reducible rfl)
  try simp only [Act.put, List.setIfInBounds_toArray, List.set_cons_zero, List.set_cons_succ]
  refine wpAnyH_take (i := 30) (oi := { dst := some 45, op := Op.fieldAddr 89 (Operand.tmp 44) 0, type := 0, pos := "law.go:180", after := #[{ on := 29, ground := Ground.data }, { on := 24, ground := Ground.guard }], guard := some (24, false) }) (v := ?_) rfl (by kernel_rfl) (by kernel_rfl) (by kernel_rfl) (fun _ _ _ h => h) (Or.inl ⟨by rfl, ?_⟩) (by assumption) ?_
  rotate_left
  · intro w hSw
    (try dsimp only at hSw)
    go_simp
    all_goals (try with_reducible rfl)
  try simp only [Act.put, List.setIfInBounds_toArray, List.set_cons_zero, List.set_cons_succ]
  refine wpAnyH_take (i := 31) (oi := { dst := some 46, op := Op.indexAddr 84 (Operand.tmp 45) (Operand.tmp 43), type := 0, pos := "law.go:180", after := #[{ on := 30, ground := Ground.data }, { on := 28, ground := Ground.data }, { on := 24, ground := Ground.guard }], guard := some (24, false) }) (v := ?_) rfl (by kernel_rfl) (by kernel_rfl) (by kernel_rfl) (fun _ _ _ h => h) (Or.inl ⟨by rfl, ?_⟩) (by assumption) ?_
  rotate_left
  · intro w hSw
    (try dsimp only at hSw)
    go_simp
    all_goals (try with_reducible rfl)
  try simp only [Act.put, List.setIfInBounds_toArray, List.set_cons_zero, List.set_cons_succ]
  refine wpAnyH_take (i := 32) (oi := { dst := some 47, op := Op.load 48 (Operand.tmp 46), type := 48, pos := "law.go:180", after := #[{ on := 31, ground := Ground.data }, { on := 24, ground := Ground.guard }], guard := some (24, false) }) (v := ?_) rfl (by kernel_rfl) (by kernel_rfl) (by kernel_rfl) (fun _ _ _ h => h) (Or.inl ⟨by rfl, ?_⟩) (by assumption) ?_
  rotate_left
  · intro w hSw
    (try dsimp only at hSw)
    go_simp
    all_goals (try with_reducible rfl)
  try simp only [Act.put, List.setIfInBounds_toArray, List.set_cons_zero, List.set_cons_succ]
  refine wpAnyH_take (i := 33) (oi := { dst := some 48, op := Op.move (Operand.tmp 0), type := 136, pos := "law.go:180", after := #[{ on := 24, ground := Ground.guard }], guard := some (24, false) }) (v := ?_) rfl (by kernel_rfl) (by kernel_rfl) (by kernel_rfl) (fun _ _ _ h => h) (Or.inl ⟨by rfl, ?_⟩) (by assumption) ?_
  rotate_left
  · intro w hSw
    (try dsimp only at hSw)
    go_simp
    all_goals (try with_reducible rfl)
  try simp only [Act.put, List.setIfInBounds_toArray, List.set_cons_zero, List.set_cons_succ]
  refine wpAnyH_take (i := 34) (oi := { dst := some 49, op := Op.move (Operand.tmp 5), type := 3, pos := "law.go:180", after := #[{ on := 24, ground := Ground.guard }], guard := some (24, false) }) (v := ?_) rfl (by kernel_rfl) (by kernel_rfl) (by kernel_rfl) (fun _ _ _ h => h) (Or.inl ⟨by rfl, ?_⟩) (by assumption) ?_
  rotate_left
  · intro w hSw
    (try dsimp only at hSw)
    go_simp
    all_goals (try with_reducible rfl)
  try simp only [Act.put, List.setIfInBounds_toArray, List.set_cons_zero, List.set_cons_succ]
  refine wpAnyH_take (i := 35) (oi := { dst := some 50, op := Op.nilCheck (Operand.tmp 48), type := 0, pos := "law.go:180", after := #[{ on := 33, ground := Ground.data }, { on := 24, ground := Ground.guard }], guard := some (24, false) }) (v := ?_) rfl (by kernel_rfl) (by kernel_rfl) (by kernel_rfl) (fun _ _ _ h => h) (Or.inl ⟨by rfl, ?_⟩) (by assumption) ?_
  rotate_left
  · intro w hSw
    (try dsimp only at hSw)
    go_simp
    all_goals (try with_reducible rfl)
  try simp only [Act.put, List.setIfInBounds_toArray, List.set_cons_zero, List.set_cons_succ]
  refine wpAnyH_take (i := 36) (oi := { dst := some 51, op := Op.fieldAddr 89 (Operand.tmp 50) 1, type := 0, pos := "law.go:180", after := #[{ on := 35, ground := Ground.data }, { on := 24, ground := Ground.guard }], guard := some (24, false) }) (v := ?_) rfl (by kernel_rfl) (by kernel_rfl) (by kernel_rfl) (fun _ _ _ h => h) (Or.inl ⟨by rfl, ?_⟩) (by assumption) ?_
  rotate_left
  · intro w hSw
    (try dsimp only at hSw)
    go_simp
    all_goals (try with_reducible rfl)
  try simp only [Act.put, List.setIfInBounds_toArray, List.set_cons_zero, List.set_cons_succ]
  refine wpAnyH_take (i := 37) (oi := { dst := some 52, op := Op.indexAddr 86 (Operand.tmp 51) (Operand.tmp 49), type := 0, pos := "law.go:180", after := #[{ on := 36, ground := Ground.data }, { on := 34, ground := Ground.data }, { on := 24, ground := Ground.guard }], guard := some (24, false) }) (v := ?_) rfl (by kernel_rfl) (by kernel_rfl) (by kernel_rfl) (fun _ _ _ h => h) (Or.inl ⟨by rfl, ?_⟩) (by assumption) ?_
  rotate_left
  · intro w hSw
    (try dsimp only at hSw)
    go_simp
    all_goals (try with_reducible rfl)
  try simp only [Act.put, List.setIfInBounds_toArray, List.set_cons_zero, List.set_cons_succ]
  refine wpAnyH_take (i := 38) (oi := { dst := some 53, op := Op.load 85 (Operand.tmp 52), type := 85, pos := "law.go:180", after := #[{ on := 37, ground := Ground.data }, { on := 24, ground := Ground.guard }], guard := some (24, false) }) (v := ?_) rfl (by kernel_rfl) (by kernel_rfl) (by kernel_rfl) (fun _ _ _ h => h) (Or.inl ⟨by rfl, ?_⟩) (by assumption) ?_
  rotate_left
  · intro w hSw
    (try dsimp only at hSw)
    go_simp
    all_goals (try with_reducible rfl)
  try simp only [Act.put, List.setIfInBounds_toArray, List.set_cons_zero, List.set_cons_succ]
  refine wpAnyH_ready (rs := [39]) (by kernel_rfl) (by simp) ?_
  refine AllReadyH.cons rfl (fun K hK => ?_) ?_
  rotate_left
  · exact AllReadyH.nil
  go_simp
  refine (show Calls Try.prog 85 _ w4 _ from by rw [← HE4.out.1, ← HE4.out.2]; exact HWI.out _ st4 s4 HB4.out HI4.out HS4.out).mono ?_
  rintro e w5 ⟨rfl, ⟨st5, s5, hI5, hT5, hs5, he5, hf5⟩, hb5⟩
  obtain ⟨x1, x2, x3⟩ := hI5.cells hs5
  rw [he5, HE4.out.1] at x1
  rw [hf5, HE4.out.2] at x2
  have HK5 := hide_ (And.intro (HCC.out _ _ hI5.own (by simp)) (And.intro x1 x2))
  have HI5 := hide_ hI5
  have HB5 : Hid (Below B W w5) := hide_ (HB4.out.trans hb5)
  have HS5 := hide_ hs5
  have HE5 := hide_ (And.intro he5 hf5)
  have HT5 := hide_ hT5
  clear hI5 hb5 hs5 he5 hf5 hT5
  go_wp2_with fail
  refine hK.out _ _ HK5.out (fun hHeld' => ?_)
  clear hHeld hK K
  try simp only [Act.put, List.setIfInBounds_toArray, List.set_cons_zero, List.set_cons_succ]
  have hHeld := HK5.out
  refine wpAnyH_take (i := 40) (oi := { dst := some 55, op := Op.unOp UnOp.not 4 (Operand.tmp 54), type := 4, pos := "law.go:180", after := #[{ on := 39, ground := Ground.data }, { on := 24, ground := Ground.guard }], guard := some (24, false) }) (v := ?_) rfl (by kernel_rfl) (by kernel_rfl) (by kernel_rfl) (fun _ _ _ h => h) (Or.inl ⟨by rfl, ?_⟩) (by assumption) ?_
  rotate_left
  · intro w hSw
    (try dsimp only at hSw)
    go_simp
    all_goals (try with_reducible rfl)
  try simp only [Act.put, List.setIfInBounds_toArray, List.set_cons_zero, List.set_cons_succ]
  refine wpAnyH_take (i := 41) (oi := { dst := some 56, op := Op.pick (Operand.tmp 39) (Operand.const (Value.bool true)) (Operand.tmp 55), type := 4, pos := "law.go:180", after := #[{ on := 24, ground := Ground.data }, { on := 40, ground := Ground.data }], guard := none }) (v := ?_) rfl (by kernel_rfl) (by kernel_rfl) (by kernel_rfl) (fun _ _ _ h => h) (Or.inl ⟨by rfl, ?_⟩) (by assumption) ?_
  rotate_left
  · intro w hSw
    (try dsimp only at hSw)
    go_simp
    all_goals (try with_reducible rfl)
  try simp only [Act.put, List.setIfInBounds_toArray, List.set_cons_zero, List.set_cons_succ]
  refine wpAnyH_done (by kernel_rfl) ?_ _
  obtain ⟨⟨y0, y1, y2, y3, y4, y5, y6, y7⟩, x1, x2⟩ := HK5.out
  have bl := (HC.out _ _ HI5.out.own (by simp)).2.2
  have H4 := hide_ (HRE.out w5 st5 HB5.out HI5.out (by rw [HT5.out]; exact HI4.out.tl))
  clear hHeld'
  go_wp2_with fail
  refine H4.out.mono ?_
  rintro e w6 ⟨rfl, ⟨st6, hI6, hs6⟩, hb6⟩
  have HI6 := hide_ hI6
  have HS6 := hide_ hs6
  have HB6 := hide_ (HB5.out.trans hb6)
  clear hI6 hs6 hb6
  go_wp2
  go_ret
  refine ⟨rfl, ⟨st6, HI6.out.drop, fun g0 g1 g2 => ?_⟩, HB6.out⟩
  obtain ⟨z, hz⟩ := HIN.out g0 g1 g2
  rw [HS3.out] at hz
  injection hz with hz
  obtain ⟨s6, f1, f2, f3⟩ := HS6.out s5 HS5.out
  rw [HE5.out.1, HE4.out.1, hz] at f2
  cases s6 with
  | none => cases f2
  | some z' => exact ⟨z', f1⟩
end
end Go.Proofs.Ytgppbdcnpailaaa
