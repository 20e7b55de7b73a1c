/-
  The world's slots; the walk of make where it empties a slot.
-/
import Derived.Test.YtgppbdcnpailaaaWinS
namespace Go.Proofs.Ytgppbdcnpailaaa
open Go.RowKit
set_option linter.unusedVariables false
set_option linter.unusedSimpArgs false

/-- what a slot holds: a segment and the document's -/
structure SegV where
  g : Nat
  d : Nat
  c : Nat
  r : Nat
  b : Nat
  rc : Nat
  N : Nat
  on : Bool
  tv : Value
  lv : Value
  ts : List (Int × Bool)
  xs : List Int
def segRows (s : SegV) : List Ro := memRows s.g s.d s.N s.c s.on s.tv s.ts s.xs ++ refRows s.r s.b s.N s.rc s.on s.lv s.ts s.xs
def slotRows : Option SegV → List Ro
  | none => []
  | some s => segRows s
structure SegOk (s : SegV) : Prop where
  seg : IsSeg s.N
  len : s.xs.length = s.N
  ok : bytesOk s.xs
  ts : s.ts.length ≤ 65536
def SlotOk : Option SegV → Prop
  | none => True
  | some s => SegOk s
def mA : Option SegV → Option Addr
  | none => none
  | some s => some ⟨s.g, 0, none⟩
def rA : Option SegV → Option Addr
  | none => none
  | some s => some ⟨s.r, 0, none⟩
/-- the world's rows, its slots as one list of eight cells -/
def wHeadL (q : Nat) (ps : List Value) (gv kv nv wv : Value) (G : List AnsV) (T : List NoteV) : List Ro :=
  [⟨89, 1, .slice (some ⟨q, 0, none⟩) 12 12, 12, ps ++ [gv, kv, nv, wv]⟩,
   ⟨46, 1, gv, G.length, gotC G⟩, ⟨46, 1, kv, G.length, keptC G⟩,
   ⟨70, 1, nv, T.length, noteC T⟩, ⟨70, 1, wv, T.length, wasC T⟩]
theorem mptr_eq (a : Option Addr) (w : World) : (binOp .eql 48 (.pointer a) (.pointer none)).run Try.prog w = .ok (.bool a.isNone) w := by cases a <;> kernel_rfl
section
variable {W : World} {B q : Nat} {ps : List Value} {gv kv nv wv : Value} {G : List AnsV} {T : List NoteV} {ex : List Ro}
theorem slot_cell {k : Nat} {v : Value} (hO : Owns W B (wHeadL q ps gv kv nv wv G T ++ ex)) (hk : ps[k]? = some v) : W.cell? ⟨q, k, none⟩ = some v := by
  refine hO.cell (i := 0) rfl ?_
  have hl : k < ps.length := (List.getElem?_eq_some_iff.1 hk).1
  rw [List.getElem?_append_left hl]
  exact hk
theorem slot_set {k : Nat} (hO : Owns W B (wHeadL q ps gv kv nv wv G T ++ ex)) (hk : k < ps.length) (v : Value) : Owns (W.setCell ⟨q, k, none⟩ v) B (wHeadL q (ps.set k v) gv kv nv wv G T ++ ex) := by
  have h := hO.store (i := 0) (e := 89) (size := 1) (n := 12) (g := q) (c := 12) (j := k) rfl (by simp; omega) v
  unfold wHeadL at h ⊢
  rw [List.set_append_left _ _ hk] at h
  exact h
theorem slot_store {k : Nat} (hO : Owns W B (wHeadL q ps gv kv nv wv G T ++ ex)) (hp : ps.length = 8) (hk : k < 4) (v1 v2 : Value) :
    (∃ o1, W.cell? ⟨q, k, none⟩ = some o1) ∧ (∃ o2, (W.setCell ⟨q, k, none⟩ v1).cell? ⟨q, 4 + k, none⟩ = some o2) ∧ (W.frozen? ⟨q, k, none⟩ = false) ∧ ((W.setCell ⟨q, k, none⟩ v1).frozen? ⟨q, 4 + k, none⟩ = false) ∧ q < W.heap.size ∧
      (Owns ((W.setCell ⟨q, k, none⟩ v1).setCell ⟨q, 4 + k, none⟩ v2) B (wHeadL q ((ps.set k v1).set (4 + k) v2) gv kv nv wv G T ++ ex)) ∧ Below B W ((W.setCell ⟨q, k, none⟩ v1).setCell ⟨q, 4 + k, none⟩ v2) := by
  have h1 := slot_set hO (k := k) (by omega) v1
  have h2 := slot_set h1 (k := 4 + k) (by rw [List.length_set]; omega) v2
  have hb := (hO.base (i := 0) rfl)
  refine ⟨⟨_, slot_cell hO (List.getElem?_eq_getElem (by omega))⟩, ⟨_, slot_cell h1 (List.getElem?_eq_getElem (by rw [List.length_set]; omega))⟩, hO.frozen (i := 0) rfl k, h1.frozen (i := 0) rfl (4 + k), hb.2, h2, ?_⟩
  exact ((Below.refl B W).setCell (p := ⟨q, k, none⟩) hb.1 v1).setCell (p := ⟨q, 4 + k, none⟩) hb.1 v2
/-- a slot was set, or nothing was -/
def MakePost (x : StepV) (a : Nat) (W' : World) (B q : Nat) (ps : List Value) (gv kv nv wv : Value) (G : List AnsV) (T : List NoteV) (ex : List Ro) : Prop :=
  (Owns W' B (wHeadL q ps gv kv nv wv G T ++ ex) ∧ x.d ≠ 0) ∨
  (∃ k s, k < 4 ∧ SlotOk s ∧ Owns W' B (wHeadL q ((ps.set k (.pointer (mA s))).set (4 + k) (.pointer (rA s))) gv kv nv wv G T ++ (slotRows s ++ ex)) ∧ (x.d = 0 → 8 ≤ x.n → x.n ≤ 16 → k = a ∧ s.isSome = true))
set_option maxRecDepth 100000 in
set_option maxHeartbeats 1000000 in
theorem make_17 (x : StepV) (hd : x.d = 17) (a b : Nat) (ha : a < 4) (hO : Owns W B (wHeadL q ps gv kv nv wv G T ++ ex)) (hp : ps.length = 8) (hB : B ≤ W.heap.size) :
    Calls Try.prog 83 #[.pointer (some ⟨q, 0, none⟩), .agg (stepCells x).toArray, .int .i64 a, .int .i64 b] W fun e W' => e = .returned (.bool true) ∧ MakePost x a W' B q ps gv kv nv wv G T ex ∧ Below B W W' := by
  obtain ⟨dd, sa, sb, p, v, n, sn, A, l, cc, zs⟩ := x
  simp only at hd
  subst hd
  have hO1 := hO.alloc (.cells (stepCells ⟨17, sa, sb, p, v, n, sn, A, l, cc, zs⟩).toArray 79)
  have k0 : Blk (W.alloc (.cells (stepCells ⟨17, sa, sb, p, v, n, sn, A, l, cc, zs⟩).toArray 79)) W.heap.size 79 (stepCells ⟨17, sa, sb, p, v, n, sn, A, l, cc, zs⟩).toArray := Blk.new W _ _
  obtain ⟨W1, hw⟩ : ∃ W1, W1 = W.alloc (.cells (stepCells ⟨17, sa, sb, p, v, n, sn, A, l, cc, zs⟩).toArray 79) := ⟨_, rfl⟩
  have hW1 : Below B W W1 := by rw [hw]; exact (Below.refl _ _).alloc hB _
  rw [← hw] at hO1 k0
  have c0 : W1.cell? ⟨W.heap.size, 0, none⟩ = some (.int .u8 17) := k0.cell 0
  have cl := k0.lt
  obtain ⟨⟨o1, e1⟩, ⟨o2, e2⟩, f1, f2, hq, hO2, hb2⟩ := slot_store hO1 hp ha (.pointer none) (.pointer none)
  have HO2 := hide_ hO2
  have HB2 := hide_ (hW1.trans hb2)
  have i1 : (a : Int) < 4 := by omega
  have i0 : (0 : Int) ≤ (a : Int) := by omega
  clear hO hO1 hO2 hb2 hW1 k0
  subst hw
  unfold stepCells at *
  go_enter Try.func83, Try.ntmps83
  go_wp2
  go_ret
  exact ⟨rfl, .inr ⟨a, none, ha, trivial, HO2.out, fun h => by simp at h⟩, HB2.out⟩
end
end Go.Proofs.Ytgppbdcnpailaaa
