/-
  The builder within asm's printer: copyCheck, WriteByte, WriteString, String, Len, where the builder is the first field of a struct that the call has made itself (lines of the kit's proofs over the shelf's builder, turned to this program).
-/
import Derived.Test.YtnkfjileaonemaaGreatDoorBuilder
import Derived.Lib.FrozenHead
import Derived.Lib.OthersKept
namespace Go.Proofs.YtnkfjileaonemaaGreatDoor
open Go.RowKit Go.PlainAid Go.Shelf
set_option linter.unusedSimpArgs false
set_option linter.unusedVariables false
set_option maxRecDepth 100000
/-- what the printer holds of the object but for the labels and fixes that are left -/
structure PO where
  c : Value
  d : Value
  z : Value
  s : Value
  t : Value
  e : Value
def prCells (p v : Value) (o : PO) (l f : Value) : Array Value := #[p, v, o.c, o.d, o.z, o.s, l, f, o.t, o.e]
/-- the printer at block g: the text so far, the labels and fixes that are left -/
def PrAt (B g : Nat) (p : Value) (o : PO) (l f : Value) (T : ByteArray) (w : World) : Prop :=
  B ≤ g ∧ ∃ v, w.heap[g]? = some (.cells (prCells p v o l f) 66 (0, 0)) ∧ w.ownsRowF B 5 1 v T.size (Lib.strCells T) ∧ v.ownBlock ≠ some g
def selfP (g : Nat) : Value := .pointer (some ⟨g, 0, none⟩)
def PrIs (g : Nat) (p : Value) : Prop := p = .pointer none ∨ p = selfP g
theorem pr_lies : liesAt Tryz.prog Tryz.prog.depth 66 (10 / Tryz.prog.cellsOf 66) 0 64 1 = true := by kernel_rfl
theorem strCells_app (a b : ByteArray) : Lib.strCells (a ++ b) = Lib.strCells a ++ Lib.strCells b := by
  simp only [Lib.strCells, ByteArray.data_append, Array.toList_append, List.map_append]
def nlB : ByteArray := ⟨#[10]⟩
section
variable {B g : Nat} {p : Value} {o : PO} {l f : Value} {T : ByteArray} {w w' : World}
theorem PrAt.lt (h : PrAt B g p o l f T w) : g < w.heap.size := by
  obtain ⟨_, v, hb, _⟩ := h
  exact (Array.getElem?_eq_some_iff.1 hb).1
theorem PrAt.base (h : PrAt B g p o l f T w) : B ≤ g := h.1
theorem PrAt.drew (h : PrAt B g p o l f T w) : PrAt B g p o l f T w.drew := h
theorem PrAt.drewN (h : PrAt B g p o l f T w) (k : Nat) : PrAt B g p o l f T (w.drewN k) := h
theorem PrAt.cellsAt (h : PrAt B g p o l f T w) : ∃ v, ∀ i, w.cell? ⟨g, i, none⟩ = (prCells p v o l f)[i]? := by
  obtain ⟨_, v, hb, _⟩ := h
  exact ⟨v, fun i => Lib.cell_of_heap hb i⟩
theorem PrAt.cell0 (h : PrAt B g p o l f T w) : w.cell? ⟨g, 0, none⟩ = some p := by obtain ⟨v, hv⟩ := h.cellsAt; exact hv 0
theorem PrAt.c2 (h : PrAt B g p o l f T w) : w.cell? ⟨g, 2, none⟩ = some o.c := by obtain ⟨v, hv⟩ := h.cellsAt; exact hv 2
theorem PrAt.c3 (h : PrAt B g p o l f T w) : w.cell? ⟨g, 3, none⟩ = some o.d := by obtain ⟨v, hv⟩ := h.cellsAt; exact hv 3
theorem PrAt.c4 (h : PrAt B g p o l f T w) : w.cell? ⟨g, 4, none⟩ = some o.z := by obtain ⟨v, hv⟩ := h.cellsAt; exact hv 4
theorem PrAt.c6 (h : PrAt B g p o l f T w) : w.cell? ⟨g, 6, none⟩ = some l := by obtain ⟨v, hv⟩ := h.cellsAt; exact hv 6
theorem PrAt.c7 (h : PrAt B g p o l f T w) : w.cell? ⟨g, 7, none⟩ = some f := by obtain ⟨v, hv⟩ := h.cellsAt; exact hv 7
theorem PrAt.shape (h : PrAt B g p o l f T w) : w.shape? g = some (66, 10) := by
  obtain ⟨_, v, hb, _⟩ := h
  simp [World.shape?, hb, prCells]
theorem PrAt.frozen (h : PrAt B g p o l f T w) (i : Nat) : w.frozen? ⟨g, i, none⟩ = false := by
  obtain ⟨_, v, hb, _⟩ := h
  exact Lib.frozen_of_heap hb i
/-- a store into the printer's own cells, but the buffer's -/
theorem pr_set {v : Value} {i : Nat} (u : Value) (hB : B ≤ g) (hb : w.heap[g]? = some (.cells (prCells p v o l f) 66 (0, 0))) (hown : w.ownsRowF B 5 1 v T.size (Lib.strCells T)) (hne : v.ownBlock ≠ some g) {p' : Value} {l' f' : Value}
    (hc : (prCells p v o l f).setIfInBounds i u = prCells p' v o l' f') : PrAt B g p' o l' f' T (w.setCell ⟨g, i, none⟩ u) := by
  refine ⟨hB, v, ?_, hown.kept (row := some g) ⟨rfl, rfl, rfl, by simp [World.setCell], fun k _ hk => Below.heap_setCell _ _ _ _ (fun e => hk (by simp [e]))⟩ (Or.inr hne), hne⟩
  rw [← hc]
  simp [World.setCell, Array.getElem?_modify, hb]
theorem PrAt.used (h : PrAt B g p o l f T w) (q : Value) : PrAt B g q o l f T (w.setCell ⟨g, 0, none⟩ q) := by
  obtain ⟨hB, v, hb, hown, hne⟩ := h
  exact pr_set q hB hb hown hne rfl
theorem PrAt.setL (h : PrAt B g p o l f T w) (q : Value) : PrAt B g p o q f T (w.setCell ⟨g, 6, none⟩ q) := by
  obtain ⟨hB, v, hb, hown, hne⟩ := h
  exact pr_set q hB hb hown hne rfl
theorem PrAt.setF (h : PrAt B g p o l f T w) (q : Value) : PrAt B g p o l q T (w.setCell ⟨g, 7, none⟩ q) := by
  obtain ⟨hB, v, hb, hown, hne⟩ := h
  exact pr_set q hB hb hown hne rfl
theorem pr_put {v v' : Value} {T' : ByteArray} (hB : B ≤ g) (hb : w.heap[g]? = some (.cells (prCells p v o l f) 66 (0, 0))) (hown : w.ownsRowF B 5 1 v' T'.size (Lib.strCells T')) : PrAt B g p o l f T' (w.setCell ⟨g, 1, none⟩ v') := by
  have hne := Lib.ownBlock_neF hown hb (by decide)
  refine ⟨hB, v', ?_, hown.kept (row := some g) ⟨rfl, rfl, rfl, by simp [World.setCell], fun k _ hk => Below.heap_setCell _ _ _ _ (fun e => hk (by simp [e]))⟩ (Or.inr hne), hne⟩
  simp [World.setCell, Array.getElem?_modify, hb, prCells]
/-- new memory behind, or writing elsewhere -/
theorem PrAt.below (h : PrAt B g p o l f T w) (hb : Below w.heap.size w w') : PrAt B g p o l f T w' := by
  have hlt := h.lt
  obtain ⟨hB, v, hg, hown, hne⟩ := h
  exact ⟨hB, v, (hb.block g hlt).trans hg, hown.kept (row := none) ⟨hb.os, hb.tape, hb.output, hb.size, fun k hk _ => hb.block k hk⟩ (by cases hv : v.ownBlock <;> simp), hne⟩
theorem PrAt.alloc (h : PrAt B g p o l f T w) (x : Obj) : PrAt B g p o l f T (w.alloc x) := h.below ((Below.refl _ _).alloc (Nat.le_refl _) _)
end
set_option maxHeartbeats 1000000 in
theorem pr_check (B g : Nat) (p : Value) (o : PO) (l f : Value) (T : ByteArray) (w : World) (hp : PrIs g p) (h : PrAt B g p o l f T w) :
    Calls Tryz.prog 95 #[.pointer (some ⟨g, 0, none⟩)] w fun e w' => e = .returned (.tuple #[]) ∧ (PrAt B g (selfP g) o l f T w' ∧ Below B w w' ∧ Lib.OthersKept 5 (some g) w w') := by
  have hcell := h.cell0
  have hsh := h.shape
  have hfz := h.frozen 0
  rcases hp with rfl | rfl
  · obtain ⟨j, hj, hjs⟩ := Option.map_eq_some_iff.1 bld_size
    have HP := hide_ (h.used (selfP g))
    have HB := hide_ h.base
    clear h
    go_enter Tryz.func95, Tryz.ntmps95
    go_wp2
    rw [Lib.run_to_unsafe w ⟨g, 0, none⟩ Tryz.underlying62 Tryz.underlying149 hj (by rw [hjs]; decide) hsh (Nat.zero_lt_succ 9)]
    simp only [Result.andThen]
    rw [Oper.upon_value]
    go_wp2
    rw [run_callFunc_extern Tryz.func116 (by kernel_rfl) (by kernel_rfl) (by kernel_rfl) (e := Extern.AbiNoEscape.same) (by kernel_rfl)]
    rw [Lib.run_noEscape]
    simp only [Result.andThen]
    rw [Oper.upon_value]
    go_wp2
    rw [Lib.run_from_unsafe w ⟨g, 0, none⟩ Tryz.underlying149 Tryz.underlying62 hj hsh pr_lies]
    simp only [Result.andThen]
    rw [Oper.upon_value]
    go_wp2
    go_end0
    exact ⟨rfl, HP.out, (Below.refl B w).setCell (p := ⟨g, 0, none⟩) HB.out _, (Lib.OthersKept.refl _ _ w).setCell ⟨g, 0, none⟩ rfl _⟩
  · obtain ⟨j, hj, _⟩ := Option.map_eq_some_iff.1 bld_size
    have HP := hide_ h
    clear h
    unfold selfP at hcell
    go_enter Tryz.func95, Tryz.ntmps95
    go_wp2
    rw [Lib.run_neq_ptr_same w _ Tryz.underlying62 hj]
    go_wp2
    go_end0
    exact ⟨rfl, HP.out, Below.refl B _, Lib.OthersKept.refl _ _ _⟩
set_option maxHeartbeats 2000000 in
theorem pr_byte (B g : Nat) (p : Value) (o : PO) (l f : Value) (T : ByteArray) (w : World) (hp : PrIs g p) (h : PrAt B g p o l f T w) (hlen : T.size + 1 ≤ 140737488355328) (hBw : B ≤ w.heap.size) :
    Calls Tryz.prog 82 #[.pointer (some ⟨g, 0, none⟩), .int .u8 10] w fun e w' => e = .returned .nilIface ∧ (PrAt B g (selfP g) o l f (T ++ nlB) w' ∧ Below B w w' ∧ Lib.OthersKept 5 (some g) w w') := by
  obtain ⟨i0, hi, hz0, hz1, hz2⟩ := info_parts bld_u8
  go_enter Tryz.func82, Tryz.ntmps82
  go_wp2_with (go_at_call 95; refine (pr_check B g p o l f T _ hp h).mono ?_)
  rintro e w1 ⟨rfl, h1, hb1, hk1⟩
  have hlt := h1.lt
  obtain ⟨hB, v, hbk, hown, hne⟩ := h1
  have c1 : w1.cell? ⟨g, 1, none⟩ = some v := by rw [Lib.cell_of_heap hbk]; rfl
  go_wp2_with (at_builtin; refine wpList_append_ownF _ rfl _ _ 23 rfl B 5 i0 (.int .u8 0) 1 1 Tryz.underlying23 hi hz0 hz1 hz2 rfl (by decide) _ _ _ rfl (hown.alloc _) ⟨w1.heap.size, 0, none⟩ 1 1 [.int .u8 10] rfl rfl ?c1 ?c2 ?c3 ?c4 ?c5 ?_)
  case c1 =>
    intro j u hj
    match j, hj with
    | 0, hj => simp at hj; subst hj; simp [Addr.add]
  case c2 => intro u hu; simp at hu; subst hu; rfl
  case c3 => unfold maxLen; omega
  case c4 => omega
  case c5 => have := hb1.size; simp; omega
  intro v' w2 hown' hgrow _
  have hb2 : w2.heap[g]? = some (.cells (prCells (selfP g) v o l f) 66 (0, 0)) := by
    rw [hgrow.block g (by simp; omega) (fun e => hne e.symm), Lib.alloc_old w1 _ g hlt]
    exact hbk
  have d1 : w2.cell? ⟨g, 1, none⟩ = some v := by rw [Lib.cell_of_heap hb2]; rfl
  have f1 : w2.frozen? ⟨g, 1, none⟩ = false := Lib.frozen_of_heap hb2 1
  obtain ⟨gg, cap, rfl⟩ : ∃ gg cap, v' = .slice (some ⟨gg, 0, none⟩) (T.size + 1) cap := by
    rcases hown'.2 with ⟨_, h0⟩ | ⟨gg, cap, cur, fz, hv, _⟩
    · omega
    · exact ⟨gg, cap, hv⟩
  have hsz : (T ++ nlB).size = T.size + 1 := by simp [ByteArray.size_append, nlB]; rfl
  have hcl : Lib.strCells (T ++ nlB) = Lib.strCells T ++ [.int .u8 10] := by rw [strCells_app]; rfl
  go_wp2
  go_ret
  refine ⟨rfl, ?_, ?_, ((hk1.alloc _).grown hgrow (Lib.ownsRowF_kind (hown.alloc _))).setCell ⟨g, 1, none⟩ rfl _⟩
  · exact pr_put hB hb2 (by rw [hsz, hcl]; exact hown')
  · exact ((hb1.alloc (by have := hb1.size; omega) _).grown hgrow (by have := hb1.size; simp; omega) (fun k hk => (hown.lt k hk).1)).setCell (p := ⟨g, 1, none⟩) hB _
set_option maxHeartbeats 2000000 in
theorem pr_string (B g : Nat) (p : Value) (o : PO) (l f : Value) (T : ByteArray) (s : ByteArray) (w : World) (hp : PrIs g p) (h : PrAt B g p o l f T w) (hlen : T.size + s.size ≤ 140737488355328) (hBw : B ≤ w.heap.size) :
    Calls Tryz.prog 81 #[.pointer (some ⟨g, 0, none⟩), .string s] w fun e w' => e = .returned (.tuple #[.int .i64 s.size, .nilIface]) ∧ (PrAt B g (selfP g) o l f (T ++ s) w' ∧ Below B w w' ∧ Lib.OthersKept 5 (some g) w w') := by
  obtain ⟨i0, hi, hz0, hz1, hz2⟩ := info_parts bld_u8
  go_enter Tryz.func81, Tryz.ntmps81
  go_wp2_with (go_at_call 95; refine (pr_check B g p o l f T _ hp h).mono ?_)
  rintro e w1 ⟨rfl, h1, hb1, hk1⟩
  have hlt := h1.lt
  obtain ⟨hB, v, hbk, hown, hne⟩ := h1
  have c1 : w1.cell? ⟨g, 1, none⟩ = some v := by rw [Lib.cell_of_heap hbk]; rfl
  go_wp2_with (at_builtin; refine Lib.wpList_append_own_stringF _ rfl _ _ 23 9 rfl B 5 i0 Tryz.underlying23 Tryz.underlying9 hi hz0 hz1 hz2 _ _ _ rfl hown s rfl ?c3 ?c4 ?c5 ?_)
  case c3 => unfold maxLen; omega
  case c4 => omega
  case c5 => have := hb1.size; omega
  intro v' w2 hown' hgrow _
  have hb2 : w2.heap[g]? = some (.cells (prCells (selfP g) v o l f) 66 (0, 0)) := by
    rw [hgrow.block g hlt (fun e => hne e.symm)]
    exact hbk
  have d1 : w2.cell? ⟨g, 1, none⟩ = some v := by rw [Lib.cell_of_heap hb2]; rfl
  have f1 : w2.frozen? ⟨g, 1, none⟩ = false := Lib.frozen_of_heap hb2 1
  obtain ⟨ao, n', cap, rfl⟩ : ∃ ao n' cap, v' = .slice ao n' cap := by
    rcases hown'.2 with ⟨hv, _⟩ | ⟨gg, cap, cur, fz, hv, _⟩
    · exact ⟨_, _, _, hv⟩
    · exact ⟨_, _, _, hv⟩
  have hsz : (T ++ s).size = T.size + s.size := ByteArray.size_append
  go_wp2
  go_ret2
  refine ⟨rfl, ?_, ?_, (hk1.grown hgrow (Lib.ownsRowF_kind hown)).setCell ⟨g, 1, none⟩ rfl _⟩
  · exact pr_put hB hb2 (by rw [hsz, strCells_app]; exact hown')
  · exact (hb1.grown hgrow (by have := hb1.size; omega) (fun k hk => (hown.lt k hk).1)).setCell (p := ⟨g, 1, none⟩) hB _
theorem pr_len (B g : Nat) (p : Value) (o : PO) (l f : Value) (T : ByteArray) (w : World) (h : PrAt B g p o l f T w) :
    Calls Tryz.prog 37 #[.pointer (some ⟨g, 0, none⟩)] w fun e w' => e = .returned (.int .i64 T.size) ∧ w' = w := by
  obtain ⟨hB, v, hbk, hown, hne⟩ := h
  have c1 : w.cell? ⟨g, 1, none⟩ = some v := by rw [Lib.cell_of_heap hbk]; rfl
  obtain ⟨ao, cap, rfl⟩ : ∃ ao cap, v = .slice ao T.size cap := by
    rcases hown.2 with ⟨hv, h0⟩ | ⟨gg, cap, cur, fz, hv, _⟩
    · exact ⟨none, 0, by rw [hv, h0]⟩
    · exact ⟨_, _, hv⟩
  obtain ⟨n, hn⟩ : ∃ n, n = T.size := ⟨_, rfl⟩
  rw [← hn] at c1 ⊢
  clear hbk hown hne hn
  go_enter Tryz.func37, Tryz.ntmps37
  go_wp2
  go_ret
  exact ⟨rfl, rfl⟩
set_option maxHeartbeats 2000000 in
theorem pr_text (B g : Nat) (p : Value) (o : PO) (l f : Value) (T : ByteArray) (w : World) (h : PrAt B g p o l f T w) (h0 : T.size ≠ 0) :
    Calls Tryz.prog 38 #[.pointer (some ⟨g, 0, none⟩)] w fun e w' => e = .returned (.string T) ∧ Below B w w' := by
  obtain ⟨hB, v, hbk, hown, hne⟩ := h
  obtain ⟨L, hL⟩ : ∃ L : List UInt8, L = T.data.toList := ⟨_, rfl⟩
  have hTL : T = ⟨L.toArray⟩ := by rw [hL, Array.toArray_toList]
  have hlen : T.size = L.length := by rw [hL]; rfl
  have hcl : Lib.strCells T = Lib.byteCells L := by rw [hL]; rfl
  rw [hlen, hcl] at hown
  rw [hTL]
  rw [hlen] at h0
  clear hTL hcl hlen hL
  obtain ⟨gg, cap, cur, fz, rfl, hbg, hg, hfz, hnc, hcm, hcs, htake⟩ : ∃ gg cap cur fz, v = .slice (some ⟨gg, 0, none⟩) L.length cap ∧ B ≤ gg ∧ w.heap[gg]? = some (.cells cur 5 fz) ∧ fz.2 ≤ L.length * 1 ∧ L.length ≤ cap ∧ cap ≤ maxLen ∧ cur.size = cap * 1 ∧ cur.toList.take (L.length * 1) = Lib.byteCells L := by
    rcases hown.2 with ⟨_, hz⟩ | ⟨gg, cap, cur, fz, hv, r⟩
    · exact absurd hz h0
    · exact ⟨gg, cap, cur, fz, hv, r⟩
  have c1 : w.drew.cell? ⟨g, 1, none⟩ = some (.slice (some ⟨gg, 0, none⟩) L.length cap) := by
    have : w.drew.heap[g]? = some (.cells (prCells p (.slice (some ⟨gg, 0, none⟩) L.length cap) o l f) 66 (0, 0)) := hbk
    rw [Lib.cell_of_heap this]; rfl
  have hSD : (Builtin.unsafeSliceData_ #[23] 103 #[.slice (some ⟨gg, 0, none⟩) L.length cap]).run Tryz.prog w.drew = .ok (.pointer (some ⟨gg, 0, none⟩)) w.drew :=
    Lib.run_unsafeSliceData_row _ _ _ _ _ _ (by omega)
  have hUS : (Builtin.unsafeString_ #[103, 3] 9 #[.pointer (some ⟨gg, 0, none⟩), .int .i64 L.length]).run Tryz.prog w.drew = .ok (.string ⟨L.toArray⟩) (w.drew.freeze ⟨gg, 0, none⟩ L.length) := by
    refine Lib.run_unsafeString_row w.drew 103 3 9 5 Tryz.underlying103 (by kernel_rfl) gg cur.size (by have hg' : w.drew.heap[gg]? = some (.cells cur 5 fz) := hg; simp [World.shape?, hg']) L (by intro e; rw [e] at h0; exact h0 rfl) (by omega) (by unfold maxLen at hcm; omega) ?_
    intro j x hx
    exact hown.cells (g := gg) rfl j (.int .u8 x.toNat) (by simp [Lib.byteCells, hx])
  have HFIN := hide_ (Lib.below_freeze (Below.drew (Below.refl B w)) (p := ⟨gg, 0, none⟩) hbg L.length)
  clear hbk hown hne hg hfz htake hcs
  go_enter Tryz.func38, Tryz.ntmps38
  go_wp2
  go_region
  all_goals
    go_wp2
    go_ret
    exact ⟨rfl, HFIN.out⟩
end Go.Proofs.YtnkfjileaonemaaGreatDoor
