/-
  A call of a slot's segment, and of the document's: Log, Touched, Store1.
-/
import Derived.Test.YtgppbdcnpailaaaStand
namespace Go.Proofs.Ytgppbdcnpailaaa
open Go.RowKit
set_option linter.unusedVariables false
set_option linter.unusedSimpArgs false

section
variable {W : World} {B q k : Nat} {st : WS} {ex : List Ro}
theorem Inv.opened (h : Inv W B q k st ex) {a : Nat} (ha : a < 4) {sv : SegV} (hs : st.S[a]? = some (some sv)) : SegOk sv ∧ ∃ R : List Ro,
    Owns W B (memRows sv.g sv.d sv.N sv.c sv.on sv.tv sv.ts sv.xs ++ (refRows sv.r sv.b sv.N sv.rc sv.on sv.lv sv.ts sv.xs ++ (wHeadL q (ptrs st.S) st.gv st.kv st.nv st.wv st.G st.T ++ R))) ∧
    ∀ W' on ts xs tv lv, Owns W' B (memRows sv.g sv.d sv.N sv.c on tv ts xs ++ (refRows sv.r sv.b sv.N sv.rc on lv ts xs ++ (wHeadL q (ptrs st.S) st.gv st.kv st.nv st.wv st.G st.T ++ R))) → B ≤ W'.heap.size → xs.length = sv.N → bytesOk xs → ts.length ≤ 65536 →
      ∃ st' s', Inv W' B q k st' ex ∧ st'.S[a]? = some s' ∧ mA s' = mA (some sv) ∧ rA s' = rA (some sv) := by
  obtain ⟨rest, hrest⟩ := rows_at (S := st.S) h.len ha
  refine ⟨h.ok _ (List.mem_of_getElem? hs), st.G.flatMap ansRows ++ (st.T.flatMap noteRows ++ (rest ++ ex)), h.own.perm fun cnt one e1 e2 e3 => ?_, fun W' on ts xs tv lv hO hB h1 h2 h3 => ?_⟩
  · have := (hrest cnt one e1 e2 e3).1 _ hs
    simp only [slotRows, segRows, e1] at this
    simp only [e1, e2, e3]
    omega
  · refine ⟨{ st with S := st.S.set a (some ⟨sv.g, sv.d, sv.c, sv.r, sv.b, sv.rc, sv.N, on, tv, lv, ts, xs⟩) }, some ⟨sv.g, sv.d, sv.c, sv.r, sv.b, sv.rc, sv.N, on, tv, lv, ts, xs⟩, ⟨?_, hB, by simp [h.len], ok_set h.ok ⟨(h.ok _ (List.mem_of_getElem? hs) : SegOk sv).seg, h1, h2, h3⟩, h.gl, h.tl, h.ga, h.ta⟩, by rw [List.getElem?_set_self (by rw [h.len]; exact ha)], rfl, rfl⟩
    show Owns W' B (wHeadL q (ptrs (st.S.set a (some ⟨sv.g, sv.d, sv.c, sv.r, sv.b, sv.rc, sv.N, on, tv, lv, ts, xs⟩))) st.gv st.kv st.nv st.wv st.G st.T ++ (st.G.flatMap ansRows ++ (st.T.flatMap noteRows ++ ((st.S.set a (some ⟨sv.g, sv.d, sv.c, sv.r, sv.b, sv.rc, sv.N, on, tv, lv, ts, xs⟩)).flatMap slotRows ++ ex))))
    rw [ptrs_same (s' := some ⟨sv.g, sv.d, sv.c, sv.r, sv.b, sv.rc, sv.N, on, tv, lv, ts, xs⟩) h.len ha hs rfl rfl]
    refine hO.perm fun cnt one e1 e2 e3 => ?_
    have := (hrest cnt one e1 e2 e3).2 (some ⟨sv.g, sv.d, sv.c, sv.r, sv.b, sv.rc, sv.N, on, tv, lv, ts, xs⟩)
    simp only [slotRows, segRows, e1] at this
    simp only [e1, e2, e3]
    omega
/-- slot 0's two pointers lie there -/
def Ptr0 (W : World) (q : Nat) (s : Option SegV) : Prop := W.cell? ⟨q, 0, none⟩ = some (.pointer (mA s)) ∧ W.cell? ⟨q, 4, none⟩ = some (.pointer (rA s)) ∧ q < W.heap.size
def Back (W : World) (B q k : Nat) (s : Option SegV) (ex : List Ro) : Prop := ∃ st' s', Inv W B q k st' ex ∧ st'.S[0]? = some s' ∧ mA s' = mA s ∧ rA s' = rA s
theorem Inv.ptr0 (h : Inv W B q k st ex) {s : Option SegV} (hs : st.S[0]? = some s) : Ptr0 W q s := h.cells hs
theorem ptr0_of {W' : World} {l : List Ro} {ps : List Value} {gv kv nv wv : Value} {G : List AnsV} {T : List NoteV} {R : List Ro} {s : Option SegV} (hO : Owns W' B l) (hq : Owns W B (wHeadL q ps gv kv nv wv G T ++ R)) (h0 : ps[0]? = some (.pointer (mA s))) (h4 : ps[4]? = some (.pointer (rA s)))
    (hp : ∃ m, Owns W' B (wHeadL q ps gv kv nv wv G T ++ m)) : Ptr0 W' q s := by
  obtain ⟨m, hm⟩ := hp
  exact ⟨slot_cell hm h0, slot_cell hm h4, (hm.base (i := 0) rfl).2⟩
theorem log2 (h : Inv W B q k st ex) (s : Option SegV) (hs : st.S[0]? = some s) (f : Bool) :
    Calls Try.prog 45 #[.pointer (mA s), .bool f] W fun e W1 => e = .returned (.tuple #[]) ∧ Below B W W1 ∧ Ptr0 W1 q s ∧
      Calls Try.prog 55 #[.pointer (rA s), .bool f] W1 fun e2 W2 => e2 = .returned (.tuple #[]) ∧ Below B W W2 ∧ Back W2 B q k s ex := by
  cases s with
  | none =>
    refine (Log_not f (W := W) (P := none) (.inl rfl)).mono ?_
    rintro e W1 ⟨rfl, hb⟩
    have h1 := h.below hb
    refine ⟨rfl, hb.mono h.base, h1.ptr0 hs, (rSetLog_nil f W1).mono ?_⟩
    rintro e2 W2 ⟨rfl, rfl⟩
    exact ⟨rfl, hb.mono h.base, st, none, h1, hs, rfl, rfl⟩
  | some sv =>
    obtain ⟨hok, R, hO, hback⟩ := h.opened (by omega) hs
    refine (Log_any f hO hok.seg.pow).mono ?_
    rintro e W1 ⟨rfl, hO1, hb⟩
    have hp : Owns W1 B (wHeadL q (ptrs st.S) st.gv st.kv st.nv st.wv st.G st.T ++ (memRows sv.g sv.d sv.N sv.c f (.slice none 0 0) [] sv.xs ++ (refRows sv.r sv.b sv.N sv.rc sv.on sv.lv sv.ts sv.xs ++ R))) := hO1.perm fun cnt one e1 e2 e3 => by simp only [e1]; omega
    refine ⟨rfl, hb, ⟨slot_cell hp (ptrs_m hs), slot_cell hp (ptrs_r h.len hs), (hp.base (i := 0) rfl).2⟩, (rSetLog_any f hO1.turned).mono ?_⟩
    rintro e2 W2 ⟨rfl, hO2, hb2⟩
    exact ⟨rfl, hb.trans hb2, hback W2 f [] sv.xs _ _ hO2.turned (Nat.le_trans h.base (Nat.le_trans hb.size hb2.size)) hok.len hok.ok (by simp)⟩
theorem store2 (h : Inv W B q k st ex) (s : Option SegV) (hs : st.S[0]? = some s) (a v : Int) (a0 : 0 ≤ a) (a1 : a ≤ 4294967295) (v0 : 0 ≤ v) (v1 : v < 4294967296) :
    Calls Try.prog 41 #[.pointer (mA s), .int .u32 a, .int .u32 v] W fun e W1 => e = .returned (.tuple #[]) ∧ Below B W W1 ∧ Ptr0 W1 q s ∧
      Calls Try.prog 58 #[.pointer (rA s), .int .u32 a, .int .u32 v, .int .i64 1] W1 fun e2 W2 => e2 = .returned (.tuple #[]) ∧ Below B W W2 ∧ Back W2 B q k s ex := by
  cases s with
  | none =>
    refine (Store1_not a v (W := W) (P := none) (.inl rfl)).mono ?_
    rintro e W1 ⟨rfl, hb⟩
    have h1 := h.below hb
    refine ⟨rfl, hb.mono h.base, h1.ptr0 hs, (rStore_nil a v 1 W1).mono ?_⟩
    rintro e2 W2 ⟨rfl, rfl⟩
    exact ⟨rfl, hb.mono h.base, st, none, h1, hs, rfl, rfl⟩
  | some sv =>
    obtain ⟨hok, R, hO, hback⟩ := h.opened (by omega) hs
    refine (Store1_any a v hO h.base hok.seg.pow hok.len v0 v1).mono ?_
    rintro e W1 ⟨rfl, tv1, hO1, hb⟩
    have hp : Owns W1 B (wHeadL q (ptrs st.S) st.gv st.kv st.nv st.wv st.G st.T ++ (memRows sv.g sv.d sv.N sv.c sv.on tv1 (notes sv.N sv.on true a sv.ts 1) (puts sv.N a (bytes4 v) sv.xs 1) ++ (refRows sv.r sv.b sv.N sv.rc sv.on sv.lv sv.ts sv.xs ++ R))) := hO1.perm fun cnt one e1 e2 e3 => by simp only [e1]; omega
    refine ⟨rfl, hb, ⟨slot_cell hp (ptrs_m hs), slot_cell hp (ptrs_r h.len hs), (hp.base (i := 0) rfl).2⟩, (rStore_any a v 1 hO1.turned (Nat.le_trans h.base hb.size) hok.seg.pow hok.len a0 a1 (by omega) v0 v1).mono ?_⟩
    rintro e2 W2 ⟨rfl, ⟨lv2, hO2⟩, hb2⟩
    exact ⟨rfl, hb.trans hb2, hback W2 sv.on _ _ _ _ hO2.turned (Nat.le_trans h.base (Nat.le_trans hb.size hb2.size)) (by rw [puts_len, hok.len]) (puts_ok (bytes4_ok v0 v1) hok.ok _) (notes_len hok.ts _)⟩
theorem touch2 (h : Inv W B q k st ex) (s : Option SegV) (hs : st.S[0]? = some s) :
    Calls Try.prog 46 #[.pointer (mA s)] W fun e W1 => ∃ A n, e = .returned (.slice A n n) ∧ Below B W W1 ∧ Ptr0 W1 q s ∧
      Calls Try.prog 57 #[.pointer (rA s)] W1 fun e2 W2 => ∃ A' c', e2 = .returned (.slice A' n c') ∧ Below B W W2 ∧ Ptr0 W2 q s ∧
        Calls Try.prog 56 #[.slice A n n, .slice A' n c'] W2 fun e3 W3 => e3 = .returned (.bool true) ∧ Below B W W3 ∧ Ptr0 W3 q s ∧ Back W3 B q k s ex := by
  cases s with
  | none =>
    refine (Touched_not (W := W) (P := none) (.inl rfl)).mono ?_
    rintro e W1 ⟨rfl, hb⟩
    have h1 := h.below hb
    refine ⟨none, 0, rfl, hb.mono h.base, h1.ptr0 hs, (rTouched_nil W1).mono ?_⟩
    rintro e2 W2 ⟨rfl, rfl⟩
    refine ⟨none, 0, rfl, hb.mono h.base, h1.ptr0 hs, (sameTouches_any none none 0 0 0 [] W2.heap.size W2 ⟨rfl, fun h => absurd h (by omega)⟩ ⟨rfl, fun h => absurd h (by omega)⟩ (Nat.le_refl _) (by omega)).mono ?_⟩
    rintro e3 W3 ⟨rfl, nq, rfl⟩
    exact ⟨rfl, below_draws2 (hb.mono h.base) nq, (h1.drewN nq).ptr0 hs, st, none, h1.drewN nq, hs, rfl, rfl⟩
  | some sv =>
    obtain ⟨hok, R, hO, hback⟩ := h.opened (by omega) hs
    refine (Touched_own hO hok.seg.pow).mono ?_
    rintro e W1 ⟨A, ct, rfl, hO1, hb⟩
    have hp : Owns W1 B (wHeadL q (ptrs st.S) st.gv st.kv st.nv st.wv st.G st.T ++ (memRows sv.g sv.d sv.N sv.c sv.on (.slice none 0 0) [] sv.xs ++ (touchR A sv.ts.length ct sv.ts :: (refRows sv.r sv.b sv.N sv.rc sv.on sv.lv sv.ts sv.xs ++ R)))) := hO1.perm fun cnt one e1 e2 e3 => by simp only [e1, e2]; omega
    have hO1' : Owns W1 B (refRows sv.r sv.b sv.N sv.rc sv.on sv.lv sv.ts sv.xs ++ (memRows sv.g sv.d sv.N sv.c sv.on (.slice none 0 0) [] sv.xs ++ (touchR A sv.ts.length ct sv.ts :: (wHeadL q (ptrs st.S) st.gv st.kv st.nv st.wv st.G st.T ++ R)))) := hO1.perm fun cnt one e1 e2 e3 => by simp only [e1, e2]; omega
    refine ⟨A, sv.ts.length, rfl, hb, ⟨slot_cell hp (ptrs_m hs), slot_cell hp (ptrs_r h.len hs), (hp.base (i := 0) rfl).2⟩, (rTouched_own hO1').mono ?_⟩
    rintro e2 W2 ⟨A', ct', rfl, hO2, hb2⟩
    have hp2 : Owns W2 B (wHeadL q (ptrs st.S) st.gv st.kv st.nv st.wv st.G st.T ++ (refRows sv.r sv.b sv.N sv.rc sv.on (.slice none 0 0) [] sv.xs ++ (touchR A' sv.ts.length ct' sv.ts :: (memRows sv.g sv.d sv.N sv.c sv.on (.slice none 0 0) [] sv.xs ++ (touchR A sv.ts.length ct sv.ts :: R))))) := hO2.perm fun cnt one e1 e2 e3 => by simp only [e1, e2]; omega
    have hr1 : TReads W2 W2.heap.size A sv.ts.length sv.ts := TReads.of_reads (Reads.of_own (hO2.1 (touchR A sv.ts.length ct sv.ts) (by simp)))
    have hr2 : TReads W2 W2.heap.size A' sv.ts.length sv.ts := TReads.of_reads (Reads.of_own (hO2.1 (touchR A' sv.ts.length ct' sv.ts) (by simp)))
    refine ⟨A', ct', rfl, hb.trans hb2, ⟨slot_cell hp2 (ptrs_m hs), slot_cell hp2 (ptrs_r h.len hs), (hp2.base (i := 0) rfl).2⟩, (sameTouches_any A A' _ _ ct' sv.ts _ W2 hr1 hr2 (Nat.le_refl _) (by have := hok.ts; omega)).mono ?_⟩
    rintro e3 W3 ⟨rfl, nq, rfl⟩
    have hO3 : Owns W2 B (memRows sv.g sv.d sv.N sv.c sv.on (.slice none 0 0) [] sv.xs ++ (refRows sv.r sv.b sv.N sv.rc sv.on (.slice none 0 0) [] sv.xs ++ (wHeadL q (ptrs st.S) st.gv st.kv st.nv st.wv st.G st.T ++ R))) := hO2.pick [touchR A sv.ts.length ct sv.ts, touchR A' sv.ts.length ct' sv.ts] fun cnt one e1 e2 e3 => by simp only [e1, e2, e3]; omega
    exact ⟨rfl, below_draws2 (hb.trans hb2) nq, ⟨slot_cell (hp2.drewN nq) (ptrs_m hs), slot_cell (hp2.drewN nq) (ptrs_r h.len hs), (hp2.base (i := 0) rfl).2⟩, hback _ sv.on [] sv.xs _ _ (hO3.drewN nq) (Nat.le_trans h.base (Nat.le_trans hb.size hb2.size)) hok.len hok.ok (by simp)⟩
end
end Go.Proofs.Ytgppbdcnpailaaa
