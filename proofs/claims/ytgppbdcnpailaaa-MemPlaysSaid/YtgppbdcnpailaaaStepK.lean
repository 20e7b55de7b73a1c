/-
  What stands of playpenlaw09's world between its calls, and that make, words, windows, rest keep it.
-/
import Derived.Test.YtgppbdcnpailaaaRest
namespace Go.Proofs.Ytgppbdcnpailaaa
open Go.RowKit
set_option linter.unusedVariables false
set_option linter.unusedSimpArgs false

structure WS where
  S : List (Option SegV)
  gv : Value
  kv : Value
  nv : Value
  wv : Value
  G : List AnsV
  T : List NoteV
def ptrs (S : List (Option SegV)) : List Value := S.map (fun s => .pointer (mA s)) ++ S.map (fun s => .pointer (rA s))
structure Inv (W : World) (B q k : Nat) (st : WS) (ex : List Ro) : Prop where
  own : Owns W B (wHeadL q (ptrs st.S) st.gv st.kv st.nv st.wv st.G st.T ++ (st.G.flatMap ansRows ++ (st.T.flatMap noteRows ++ (st.S.flatMap slotRows ++ ex))))
  base : B ≤ W.heap.size
  len : st.S.length = 4
  ok : ∀ s ∈ st.S, SlotOk s
  gl : st.G.length ≤ k
  tl : st.T.length ≤ k
  ga : ∀ a ∈ st.G, a.n ≤ 65536
  ta : ∀ t ∈ st.T, t.n ≤ 65536
theorem ptrs_len {S : List (Option SegV)} (h : S.length = 4) : (ptrs S).length = 8 := by simp [ptrs, h]
theorem ptrs_m {S : List (Option SegV)} {a : Nat} {s : Option SegV} (h : S[a]? = some s) : (ptrs S)[a]? = some (.pointer (mA s)) := by
  have hl := (List.getElem?_eq_some_iff.1 h).1
  rw [ptrs, List.getElem?_append_left (by simpa using hl), List.getElem?_map, h]
  rfl
theorem ptrs_r {S : List (Option SegV)} {a : Nat} {s : Option SegV} (h4 : S.length = 4) (h : S[a]? = some s) : (ptrs S)[4 + a]? = some (.pointer (rA s)) := by
  rw [ptrs, List.getElem?_append_right (by simp; omega)]
  simp only [List.length_map, h4, Nat.add_sub_cancel_left, List.getElem?_map, h]
  rfl
theorem ptrs_set {S : List (Option SegV)} {a : Nat} (h4 : S.length = 4) (ha : a < 4) (s : Option SegV) : ptrs (S.set a s) = ((ptrs S).set a (.pointer (mA s))).set (4 + a) (.pointer (rA s)) := by
  match S, h4 with
  | [_, _, _, _], _ =>
    rcases (by omega : a = 0 ∨ a = 1 ∨ a = 2 ∨ a = 3) with rfl | rfl | rfl | rfl <;> rfl
theorem ptrs_same {S : List (Option SegV)} {a : Nat} {s s' : Option SegV} (h4 : S.length = 4) (ha : a < 4) (h : S[a]? = some s) (h1 : mA s' = mA s) (h2 : rA s' = rA s) : ptrs (S.set a s') = ptrs S := by
  rw [ptrs_set h4 ha, h1, h2]
  match S, h4 with
  | [s0, s1, s2, s3], _ =>
    rcases (by omega : a = 0 ∨ a = 1 ∨ a = 2 ∨ a = 3) with rfl | rfl | rfl | rfl <;> (injection h with h; subst h; rfl)
theorem rows_at {S : List (Option SegV)} {a : Nat} (h4 : S.length = 4) (ha : a < 4) : ∃ rest : List Ro, ∀ (cnt : List Ro → Nat) (one : Ro → Nat), (∀ x y, cnt (x ++ y) = cnt x + cnt y) → (∀ x l, cnt (x :: l) = one x + cnt l) → cnt [] = 0 →
    (∀ s, S[a]? = some s → cnt (S.flatMap slotRows) = cnt (slotRows s) + cnt rest) ∧ (∀ s', cnt ((S.set a s').flatMap slotRows) = cnt (slotRows s') + cnt rest) := by
  refine ⟨(S.eraseIdx a).flatMap slotRows, fun cnt one e1 e2 e3 => ?_⟩
  match S, h4 with
  | [s0, s1, s2, s3], _ =>
    rcases (by omega : a = 0 ∨ a = 1 ∨ a = 2 ∨ a = 3) with rfl | rfl | rfl | rfl <;>
    · refine ⟨fun s h => ?_, fun s' => ?_⟩
      · injection h with h
        subst h
        simp only [List.flatMap_cons, List.flatMap_nil, List.eraseIdx, e1, e3, List.getElem?_cons_zero, List.getElem?_cons_succ]
        try omega
      · simp only [List.flatMap_cons, List.flatMap_nil, List.eraseIdx, List.set, e1, e3]
        try omega
theorem slot_some {S : List (Option SegV)} (h4 : S.length = 4) {a : Nat} (ha : a < 4) : ∃ s, S[a]? = some s := ⟨_, List.getElem?_eq_getElem (by omega)⟩
theorem mem_slots {S : List (Option SegV)} {b : Nat} {s : Option SegV} (h : S[b]? = some s) : ∀ ro ∈ slotRows s, ro ∈ S.flatMap slotRows := fun ro hr => List.mem_flatMap.2 ⟨s, List.mem_of_getElem? h, hr⟩
theorem ok_set {S : List (Option SegV)} {a : Nat} {s' : Option SegV} (h : ∀ s ∈ S, SlotOk s) (hs : SlotOk s') : ∀ s ∈ S.set a s', SlotOk s := fun s hm => by
  rcases List.mem_or_eq_of_mem_set hm with h1 | rfl
  · exact h s h1
  · exact hs
section
variable {W : World} {B q k : Nat} {st : WS} {ex : List Ro}
theorem Inv.mono (h : Inv W B q k st ex) {k' : Nat} (hk : k ≤ k') : Inv W B q k' st ex := ⟨h.own, h.base, h.len, h.ok, Nat.le_trans h.gl hk, Nat.le_trans h.tl hk, h.ga, h.ta⟩
theorem Inv.below (h : Inv W B q k st ex) {W' : World} (hb : Below W.heap.size W W') : Inv W' B q k st ex := ⟨h.own.below hb, Nat.le_trans h.base hb.size, h.len, h.ok, h.gl, h.tl, h.ga, h.ta⟩
theorem Inv.cells (h : Inv W B q k st ex) {a : Nat} {s : Option SegV} (hs : st.S[a]? = some s) : W.cell? ⟨q, a, none⟩ = some (.pointer (mA s)) ∧ W.cell? ⟨q, 4 + a, none⟩ = some (.pointer (rA s)) ∧ q < W.heap.size :=
  ⟨slot_cell h.own (ptrs_m hs), slot_cell h.own (ptrs_r h.len hs), (h.own.base (i := 0) rfl).2⟩
theorem make_inv (Bz : Nat) (x : StepV) (hx : StepOk W Bz x) (hBz : Bz ≤ B) (a b : Nat) (ha : a < 4) (hb : b < 4) (h : Inv W B q k st ex) :
    Calls Try.prog 83 #[.pointer (some ⟨q, 0, none⟩), .agg (stepCells x).toArray, .int .i64 a, .int .i64 b] W fun e W' => e = .returned (.bool true) ∧
      (∃ st', Inv W' B q k st' ex ∧ (x.d = 0 → 8 ≤ x.n → x.n ≤ 16 → ∃ sv, st'.S[a]? = some (some sv))) ∧ Below B W W' := by
  obtain ⟨s0, hs0⟩ := slot_some h.len ha
  obtain ⟨rest, hrest⟩ := rows_at (S := st.S) h.len ha
  have hp := ptrs_len h.len
  have hO : Owns W B (wHeadL q (ptrs st.S) st.gv st.kv st.nv st.wv st.G st.T ++ (slotRows s0 ++ (st.G.flatMap ansRows ++ (st.T.flatMap noteRows ++ (rest ++ ex))))) := h.own.perm fun cnt one e1 e2 e3 => by
    have := (hrest cnt one e1 e2 e3).1 s0 hs0
    simp only [e1, e2, e3]
    omega
  have key : Calls Try.prog 83 #[.pointer (some ⟨q, 0, none⟩), .agg (stepCells x).toArray, .int .i64 a, .int .i64 b] W fun e W' => e = .returned (.bool true) ∧ MakePost x a W' B q (ptrs st.S) st.gv st.kv st.nv st.wv st.G st.T (slotRows s0 ++ (st.G.flatMap ansRows ++ (st.T.flatMap noteRows ++ (rest ++ ex)))) ∧ Below B W W' := by
    by_cases h0 : x.d = 0
    · exact make_0 Bz x hx hBz h0 a b ha hb hO hp h.base
    by_cases h1 : x.d = 1
    · exact make_1 Bz x hx hBz h1 a b ha hb hO hp h.base
    by_cases h12 : x.d = 12
    · exact make_12 Bz x hx hBz h12 a b ha hb s0 (h.ok _ (List.mem_of_getElem? hs0)) (ptrs_m hs0) (ptrs_r h.len hs0) hO hp h.base
    by_cases h17 : x.d = 17
    · exact make_17 x h17 a b ha hO hp h.base
    exact make_o Bz x hx hBz ⟨h0, h1, h12, h17⟩ a b ha hb hO hp h.base
  refine key.mono ?_
  rintro e W' ⟨rfl, hpost, hbel⟩
  refine ⟨rfl, ?_, hbel⟩
  rcases hpost with ⟨hO', hd⟩ | ⟨k2, s, hk2, hsok, hO', hin⟩
  · refine ⟨st, ⟨hO'.perm fun cnt one e1 e2 e3 => ?_, Nat.le_trans h.base hbel.size, h.len, h.ok, h.gl, h.tl, h.ga, h.ta⟩, fun h0 => absurd h0 hd⟩
    have := (hrest cnt one e1 e2 e3).1 s0 hs0
    simp only [e1, e2, e3]
    omega
  · obtain ⟨s2, hs2⟩ := slot_some h.len hk2
    obtain ⟨rest2, hrest2⟩ := rows_at (S := st.S) h.len hk2
    refine ⟨{ st with S := st.S.set k2 s }, ⟨?_, Nat.le_trans h.base hbel.size, by simp [h.len], ok_set h.ok hsok, h.gl, h.tl, h.ga, h.ta⟩, fun h0 h1 h2 => ?_⟩
    · show Owns W' B (wHeadL q (ptrs (st.S.set k2 s)) st.gv st.kv st.nv st.wv st.G st.T ++ (st.G.flatMap ansRows ++ (st.T.flatMap noteRows ++ ((st.S.set k2 s).flatMap slotRows ++ ex))))
      rw [ptrs_set h.len hk2]
      refine hO'.pick (slotRows s2) fun cnt one e1 e2 e3 => ?_
      have t1 := (hrest cnt one e1 e2 e3).1 s0 hs0
      have t2 := (hrest2 cnt one e1 e2 e3).1 s2 hs2
      have t3 := (hrest2 cnt one e1 e2 e3).2 s
      simp only [e1, e2, e3]
      omega
    · obtain ⟨rfl, hso⟩ := hin h0 h1 h2
      cases s with
      | none => cases hso
      | some sv => exact ⟨sv, by rw [List.getElem?_set_self (by rw [h.len]; exact hk2)]⟩
theorem words_inv (qv : Value) (x : StepV) (Bz : Nat) (hx : StepOk W Bz x) (hBz : Bz ≤ B) (a : Nat) (ha : a < 4) (h : Inv W B q k st ex) (s : Option SegV) (hs : st.S[a]? = some s) :
    Calls Try.prog 84 #[qv, .agg (stepCells x).toArray, .pointer (mA s), .pointer (rA s)] W fun e W' => e = .returned (.bool true) ∧
      (∃ st' s', Inv W' B q k st' ex ∧ st'.S[a]? = some s' ∧ mA s' = mA s ∧ rA s' = rA s) ∧ Below B W W' := by
  have hxW : StepOk W W.heap.size x := ⟨hx.d, hx.a, hx.b, hx.p, hx.v, hx.n, hx.data.more (Nat.le_trans hBz h.base), hx.ok, hx.cap⟩
  cases s with
  | none =>
    refine (words_none qv x W hxW).mono ?_
    rintro e W' ⟨rfl, hb⟩
    exact ⟨rfl, ⟨st, none, h.below hb, hs, rfl, rfl⟩, hb.mono h.base⟩
  | some sv =>
    obtain ⟨rest, hrest⟩ := rows_at (S := st.S) h.len ha
    have hok : SegOk sv := h.ok _ (List.mem_of_getElem? hs)
    have hO : Owns W B (memRows sv.g sv.d sv.N sv.c sv.on sv.tv sv.ts sv.xs ++ (refRows sv.r sv.b sv.N sv.rc sv.on sv.lv sv.ts sv.xs ++ (wHeadL q (ptrs st.S) st.gv st.kv st.nv st.wv st.G st.T ++ (st.G.flatMap ansRows ++ (st.T.flatMap noteRows ++ (rest ++ ex)))))) := h.own.perm fun cnt one e1 e2 e3 => by
      have := (hrest cnt one e1 e2 e3).1 _ hs
      simp only [slotRows, segRows, e1] at this
      simp only [e1, e2, e3]
      omega
    refine (words_some qv x hxW hO h.base hok.seg hok.len hok.ok hok.ts).mono ?_
    rintro e W' ⟨rfl, ⟨on, ts, xs, ⟨tv, lv, hO'⟩, h1, h2, h3⟩, hb⟩
    refine ⟨rfl, ⟨{ st with S := st.S.set a (some ⟨sv.g, sv.d, sv.c, sv.r, sv.b, sv.rc, sv.N, on, tv, lv, ts, xs⟩) }, some ⟨sv.g, sv.d, sv.c, sv.r, sv.b, sv.rc, sv.N, on, tv, lv, ts, xs⟩, ⟨?_, Nat.le_trans h.base hb.size, by simp [h.len], ok_set h.ok ⟨hok.seg, h1, h2, h3⟩, h.gl, h.tl, h.ga, h.ta⟩, by rw [List.getElem?_set_self (by rw [h.len]; exact ha)], rfl, rfl⟩, hb⟩
    show Owns W' B (wHeadL q (ptrs (st.S.set a (some ⟨sv.g, sv.d, sv.c, sv.r, sv.b, sv.rc, sv.N, on, tv, lv, ts, xs⟩))) st.gv st.kv st.nv st.wv st.G st.T ++ (st.G.flatMap ansRows ++ (st.T.flatMap noteRows ++ ((st.S.set a (some ⟨sv.g, sv.d, sv.c, sv.r, sv.b, sv.rc, sv.N, on, tv, lv, ts, xs⟩)).flatMap slotRows ++ ex))))
    rw [ptrs_same (s' := some ⟨sv.g, sv.d, sv.c, sv.r, sv.b, sv.rc, sv.N, on, tv, lv, ts, xs⟩) h.len ha hs rfl rfl]
    refine hO'.perm fun cnt one e1 e2 e3 => ?_
    have := (hrest cnt one e1 e2 e3).2 (some ⟨sv.g, sv.d, sv.c, sv.r, sv.b, sv.rc, sv.N, on, tv, lv, ts, xs⟩)
    simp only [slotRows, segRows, e1] at this
    simp only [e1, e2, e3]
    omega
theorem windows_inv (x : StepV) (Bz : Nat) (hx : StepOk W Bz x) (hBz : Bz ≤ B) (a : Nat) (ha : a < 4) (h : Inv W B q k st ex) (hk : k ≤ 4398046511104) (s : Option SegV) (hs : st.S[a]? = some s) :
    Calls Try.prog 85 #[.pointer (some ⟨q, 0, none⟩), .agg (stepCells x).toArray, .pointer (mA s), .pointer (rA s)] W fun e W' => e = .returned (.bool true) ∧
      (∃ st' s', Inv W' B q (k + 1) st' ex ∧ st'.T = st.T ∧ st'.S[a]? = some s' ∧ mA s' = mA s ∧ rA s' = rA s) ∧ Below B W W' := by
  have hP : ∀ S, S.length = 4 → ∃ h0 h1 h2 h3 r0 r1 r2 r3, ptrs S = [h0, h1, h2, h3, r0, r1, r2, r3] := fun S h4 => eight_of_len (ptrs_len h4)
  obtain ⟨h0, h1, h2, h3, r0, r1, r2, r3, hpe⟩ := hP _ h.len
  have hG := Nat.le_trans h.gl hk
  cases s with
  | none =>
    have hO : Owns W B (wHead q h0 h1 h2 h3 r0 r1 r2 r3 st.gv st.kv st.nv st.wv st.G st.T ++ (st.G.flatMap ansRows ++ (st.T.flatMap noteRows ++ (st.S.flatMap slotRows ++ ex)))) := by
      have := h.own
      rw [hpe] at this
      exact this
    refine (windows_none Bz x hx hBz hO h.base hG).mono ?_
    rintro e W' ⟨rfl, ⟨gv', kv', Gn, hO', j1, j2⟩, hb⟩
    refine ⟨rfl, ⟨⟨st.S, gv', kv', st.nv, st.wv, st.G ++ Gn, st.T⟩, none, ⟨?_, Nat.le_trans h.base hb.size, h.len, h.ok, by have := h.gl; rw [List.length_append]; omega, Nat.le_succ_of_le h.tl, fun a' hm => ?_, h.ta⟩, rfl, hs, rfl, rfl⟩, hb⟩
    · show Owns W' B (wHeadL q (ptrs st.S) gv' kv' st.nv st.wv (st.G ++ Gn) st.T ++ ((st.G ++ Gn).flatMap ansRows ++ (st.T.flatMap noteRows ++ (st.S.flatMap slotRows ++ ex))))
      rw [hpe]
      have hO'' : Owns W' B (wHeadL q [h0, h1, h2, h3, r0, r1, r2, r3] gv' kv' st.nv st.wv (st.G ++ Gn) st.T ++ (Gn.flatMap ansRows ++ (st.G.flatMap ansRows ++ (st.T.flatMap noteRows ++ (st.S.flatMap slotRows ++ ex))))) := hO'
      exact hO''.perm fun cnt one e1 e2 e3 => by simp only [e1, e2, e3, List.flatMap_append]; omega
    · rcases List.mem_append.1 hm with hm | hm
      · exact h.ga _ hm
      · exact j2 _ hm
  | some sv =>
    obtain ⟨rest, hrest⟩ := rows_at (S := st.S) h.len ha
    have hok : SegOk sv := h.ok _ (List.mem_of_getElem? hs)
    have hO : Owns W B (memRows sv.g sv.d sv.N sv.c sv.on sv.tv sv.ts sv.xs ++ (refRows sv.r sv.b sv.N sv.rc sv.on sv.lv sv.ts sv.xs ++ (wHead q h0 h1 h2 h3 r0 r1 r2 r3 st.gv st.kv st.nv st.wv st.G st.T ++ (st.G.flatMap ansRows ++ (st.T.flatMap noteRows ++ (rest ++ ex)))))) := by
      have h' : Owns W B (wHead q h0 h1 h2 h3 r0 r1 r2 r3 st.gv st.kv st.nv st.wv st.G st.T ++ (st.G.flatMap ansRows ++ (st.T.flatMap noteRows ++ (st.S.flatMap slotRows ++ ex)))) := by
        have := h.own
        rw [hpe] at this
        exact this
      refine h'.perm fun cnt one e1 e2 e3 => ?_
      have := (hrest cnt one e1 e2 e3).1 _ hs
      simp only [slotRows, segRows, e1] at this
      simp only [e1, e2, e3]
      omega
    refine (windows_some Bz x hx hBz hO h.base hG hok.seg hok.len hok.ok hok.ts).mono ?_
    rintro e W' ⟨rfl, ⟨gv', kv', Gn, on, tv, lv, ts, xs, hO', j1, j2, j3, j4, j5⟩, hb⟩
    refine ⟨rfl, ⟨⟨st.S.set a (some ⟨sv.g, sv.d, sv.c, sv.r, sv.b, sv.rc, sv.N, on, tv, lv, ts, xs⟩), gv', kv', st.nv, st.wv, st.G ++ Gn, st.T⟩, some ⟨sv.g, sv.d, sv.c, sv.r, sv.b, sv.rc, sv.N, on, tv, lv, ts, xs⟩, ⟨?_, Nat.le_trans h.base hb.size, by simp [h.len], ok_set h.ok ⟨hok.seg, j3, j4, j5⟩, by have := h.gl; rw [List.length_append]; omega, Nat.le_succ_of_le h.tl, fun a' hm => ?_, h.ta⟩, rfl, by rw [List.getElem?_set_self (by rw [h.len]; exact ha)], rfl, rfl⟩, hb⟩
    · show Owns W' B (wHeadL q (ptrs (st.S.set a (some ⟨sv.g, sv.d, sv.c, sv.r, sv.b, sv.rc, sv.N, on, tv, lv, ts, xs⟩))) gv' kv' st.nv st.wv (st.G ++ Gn) st.T ++ ((st.G ++ Gn).flatMap ansRows ++ (st.T.flatMap noteRows ++ ((st.S.set a (some ⟨sv.g, sv.d, sv.c, sv.r, sv.b, sv.rc, sv.N, on, tv, lv, ts, xs⟩)).flatMap slotRows ++ ex))))
      rw [ptrs_same (s' := some ⟨sv.g, sv.d, sv.c, sv.r, sv.b, sv.rc, sv.N, on, tv, lv, ts, xs⟩) h.len ha hs rfl rfl, hpe]
      have hO'' : Owns W' B (memRows sv.g sv.d sv.N sv.c on tv ts xs ++ (refRows sv.r sv.b sv.N sv.rc on lv ts xs ++ (wHeadL q [h0, h1, h2, h3, r0, r1, r2, r3] gv' kv' st.nv st.wv (st.G ++ Gn) st.T ++ (Gn.flatMap ansRows ++ (st.G.flatMap ansRows ++ (st.T.flatMap noteRows ++ (rest ++ ex))))))) := hO'
      refine hO''.perm fun cnt one e1 e2 e3 => ?_
      have := (hrest cnt one e1 e2 e3).2 (some ⟨sv.g, sv.d, sv.c, sv.r, sv.b, sv.rc, sv.N, on, tv, lv, ts, xs⟩)
      simp only [slotRows, segRows, e1] at this
      simp only [e1, e2, e3, List.flatMap_append]
      omega
    · rcases List.mem_append.1 hm with hm | hm
      · exact h.ga _ hm
      · exact j2 _ hm
theorem rest_inv (x : StepV) (Bz : Nat) (hx : StepOk W Bz x) (hBz : Bz ≤ B) (a b : Nat) (ha : a < 4) (hb : b < 4) (h : Inv W B q k st ex) (k0 : Nat) (hT0 : st.T.length ≤ k0) (hk : k0 ≤ 4398046511104) (hkk : k0 + 1 ≤ k) :
    Calls Try.prog 86 #[.pointer (some ⟨q, 0, none⟩), .agg (stepCells x).toArray, .int .i64 a, .int .i64 b] W fun e W' => e = .returned (.bool true) ∧
      (∃ st', Inv W' B q k st' ex ∧ ∀ s, st.S[a]? = some s → ∃ s', st'.S[a]? = some s' ∧ mA s' = mA s ∧ rA s' = rA s) ∧ Below B W W' := by
  obtain ⟨s0, hs0⟩ := slot_some h.len ha
  obtain ⟨s1, hs1⟩ := slot_some h.len hb
  obtain ⟨rest, hrest⟩ := rows_at (S := st.S) h.len ha
  have hT := Nat.le_trans hT0 hk
  have hok0 := h.ok _ (List.mem_of_getElem? hs0)
  have hO : Owns W B (wHeadL q (ptrs st.S) st.gv st.kv st.nv st.wv st.G st.T ++ (slotRows s0 ++ (st.G.flatMap ansRows ++ (st.T.flatMap noteRows ++ (rest ++ ex))))) := h.own.perm fun cnt one e1 e2 e3 => by
    have := (hrest cnt one e1 e2 e3).1 s0 hs0
    simp only [e1, e2, e3]
    omega
  have key : Calls Try.prog 86 #[.pointer (some ⟨q, 0, none⟩), .agg (stepCells x).toArray, .int .i64 a, .int .i64 b] W fun e W' => e = .returned (.bool true) ∧ RestPost W' B q s0 (ptrs st.S) st.gv st.kv st.G st.T (st.G.flatMap ansRows ++ (st.T.flatMap noteRows ++ (rest ++ ex))) ∧ Below B W W' := by
    by_cases h13 : x.d = 13
    · refine rest_13 Bz x hx hBz h13 a b ha hb s0 hok0 (ptrs_m hs0) (ptrs_r h.len hs0) s1 (h.ok _ (List.mem_of_getElem? hs1)) (ptrs_m hs1) (ptrs_r h.len hs1) (fun ro hr => ?_) hO h.base hT
      classical
      have hm : ro ∈ st.S.flatMap slotRows := mem_slots hs1 ro hr
      have hc := (hrest (fun l => List.count ro l) (fun x => if x == ro then 1 else 0) (fun x y => List.count_append) (fun x l => by rw [List.count_cons]; omega) rfl).1 s0 hs0
      have hc2 := List.count_pos_iff.2 hm
      rw [hc] at hc2
      rcases (by omega : 0 < List.count ro (slotRows s0) ∨ 0 < List.count ro rest) with h2 | h2
      · exact List.mem_append_left _ (List.count_pos_iff.1 h2)
      · exact List.mem_append_right _ (List.mem_append_right _ (List.mem_append_right _ (List.mem_append_left _ (List.count_pos_iff.1 h2))))
    by_cases h14 : x.d = 14
    · exact rest_14 Bz x hx hBz h14 a b ha hb s0 hok0 (ptrs_m hs0) (ptrs_r h.len hs0) hO h.base hT
    by_cases h15 : x.d = 15
    · exact rest_15 Bz x hx hBz h15 a b ha hb s0 hok0 (ptrs_m hs0) (ptrs_r h.len hs0) (ptrs_len h.len) hO h.base hT
    by_cases h16 : x.d = 16
    · exact rest_16 Bz x hx hBz h16 a b ha hb s0 hok0 (ptrs_m hs0) (ptrs_r h.len hs0) hO h.base hT
    exact rest_o Bz x hx hBz ⟨h13, h14, h15, h16⟩ a b ha hb s0 hok0 (ptrs_m hs0) (ptrs_r h.len hs0) hO h.base hT
  refine key.mono ?_
  rintro e W' ⟨rfl, ⟨s, nv, wv, Tn, m1, m2, hsok, hO', j1, j2⟩, hbel⟩
  refine ⟨rfl, ⟨⟨st.S.set a s, st.gv, st.kv, nv, wv, st.G, st.T ++ Tn⟩, ⟨?_, Nat.le_trans h.base hbel.size, by simp [h.len], ok_set h.ok hsok, h.gl, by rw [List.length_append]; omega, h.ga, fun t hm => ?_⟩, fun s' hs' => ?_⟩, hbel⟩
  · show Owns W' B (wHeadL q (ptrs (st.S.set a s)) st.gv st.kv nv wv st.G (st.T ++ Tn) ++ (st.G.flatMap ansRows ++ ((st.T ++ Tn).flatMap noteRows ++ ((st.S.set a s).flatMap slotRows ++ ex))))
    rw [ptrs_same h.len ha hs0 m1 m2]
    refine hO'.perm fun cnt one e1 e2 e3 => ?_
    have := (hrest cnt one e1 e2 e3).2 s
    simp only [e1, e2, e3, List.flatMap_append]
    omega
  · rcases List.mem_append.1 hm with hm | hm
    · exact h.ta _ hm
    · exact j2 _ hm
  · rw [hs0] at hs'
    injection hs' with hs'
    subst hs'
    exact ⟨s, by rw [List.getElem?_set_self (by rw [h.len]; exact ha)], m1, m2⟩
end
end Go.Proofs.Ytgppbdcnpailaaa
