/-
  The rows of an image that is being made, and the laws of an append to its lists.
-/
import Derived.Test.YtikbegmodacopaaGreatDoorB27
namespace Go.Proofs.YtikbegmodacopaaGreatDoor
open Go.RowKit Go.PlainAid Go.BigFrame
set_option linter.unusedSimpArgs false
set_option linter.unusedVariables false
set_option maxRecDepth 100000
theorem cw_info : (Tryz.prog.info? 25).map (fun i => (i.zero, i.size, i.bytes)) = some (some (.int .u32 0), 1, 4) := by kernel_rfl
theorem cx_info : (Tryz.prog.info? 44).map (fun i => (i.zero, i.size, i.bytes)) = some (some (.agg #[.string ByteArray.empty, .int .u32 0]), 2, 24) := by kernel_rfl
def iRows (g : Nat) (y : ImgV) (s : ImgS) (tl : List Ro) : List Ro := ⟨28, 1, .slice (some ⟨g, 0, none⟩) 6 6, 6, (imgV y s).toList⟩ ::
  ⟨66, 2, .slice s.c.A y.code.length s.c.c, y.code.length, y.code.flatMap cE⟩ :: ⟨25, 1, .slice s.j.A y.jumps.length s.j.c, y.jumps.length, u32s y.jumps⟩ ::
  ⟨5, 1, .slice s.d.A y.data.length s.d.c, y.data.length, u8s y.data⟩ :: ⟨44, 2, .slice s.n.A y.names.length s.n.c, y.names.length, y.names.flatMap xE⟩ :: tl
section
variable {W : World} {B g : Nat} {y : ImgV} {s : ImgS} {tl : List Ro}
theorem iR_box (h : Owns W B (iRows g y s tl)) : (W.cell? ⟨g, 0, none⟩ = some (.slice s.c.A y.code.length s.c.c) ∧ W.cell? ⟨g, 1, none⟩ = some (.slice s.j.A y.jumps.length s.j.c) ∧ W.cell? ⟨g, 2, none⟩ = some (.slice s.d.A y.data.length s.d.c) ∧
    W.cell? ⟨g, 3, none⟩ = some (.int .u32 y.zero) ∧ W.cell? ⟨g, 4, none⟩ = some (.int .u32 y.stack) ∧ W.cell? ⟨g, 5, none⟩ = some (.slice s.n.A y.names.length s.n.c)) ∧ B ≤ g ∧ g < W.heap.size :=
  ⟨⟨h.cell (i := 0) (j := 0) rfl rfl, h.cell (i := 0) (j := 1) rfl rfl, h.cell (i := 0) (j := 2) rfl rfl, h.cell (i := 0) (j := 3) rfl rfl, h.cell (i := 0) (j := 4) rfl rfl, h.cell (i := 0) (j := 5) rfl rfl⟩, h.base (i := 0) rfl⟩
theorem iR_zero (h : Owns W B (iRows g y s tl)) (z : Int) : Owns (W.setCell ⟨g, 3, none⟩ (.int .u32 z)) B (iRows g { y with zero := z } s tl) :=
  h.store (i := 0) (e := 28) (size := 1) (n := 6) (g := g) (c := 6) (j := 3) rfl (by show 3 < 6; omega) (.int .u32 z)
theorem iR_stack (h : Owns W B (iRows g y s tl)) (z : Int) : Owns (W.setCell ⟨g, 4, none⟩ (.int .u32 z)) B (iRows g { y with stack := z } s tl) :=
  h.store (i := 0) (e := 28) (size := 1) (n := 6) (g := g) (c := 6) (j := 4) rfl (by show 4 < 6; omega) (.int .u32 z)
theorem ist_cod {ops : Array Oper} {o : Oper} {a : Act} {K : Act → World → Prop} {Q : Exit → Act → World → Prop} {E : Prop} (hgd : o.guard = none) (u v : Operand)
    (ho : o.op = .call { callee := .builtin .append, args := #[u, v], argTypes := #[22, 22] }) (hO : Owns W B (iRows g y s tl)) (hB : B ≤ W.heap.size) (hs : a.eval u = .slice s.c.A y.code.length s.c.c) (l : Int × Int)
    (hx : a.eval v = .slice (some ⟨W.heap.size, 0, none⟩) 1 1) (hl : y.code.length * 8 ≤ 140737488351232)
    (h : ∀ A c w', Owns (w'.setCell ⟨g, 0, none⟩ (.slice A (y.code.length + 1) c)) B (iRows g { y with code := y.code ++ [l] } { s with c := ⟨A, c⟩ } tl) → w'.cell? ⟨g, 0, none⟩ = some (.slice s.c.A y.code.length s.c.c) → w'.frozen? ⟨g, 0, none⟩ = false → g < w'.heap.size →
      Below B W (w'.setCell ⟨g, 0, none⟩ (.slice A (y.code.length + 1) c)) → K (a.put o.dst (.slice A (y.code.length + 1) c)) w') :
    if Region.wanted o (yielded ops a.tmps) = true then Oper.wp Tryz.prog o a (W.alloc (.cells #[.int .u8 l.1, .int .u32 l.2] 66)) K Q else E := by
  have hw : Region.wanted o (yielded ops a.tmps) = true := by simp [Region.wanted, hgd]
  rw [if_pos hw]
  obtain ⟨i0, hi, hz0, hz1, hz2⟩ := info_parts ci_info
  have hr : (iRows g y s tl)[1]? = some ⟨66, 2, .slice s.c.A y.code.length s.c.c, y.code.length, y.code.flatMap cE⟩ := rfl
  have hOA := hO.alloc (.cells #[.int .u8 l.1, .int .u32 l.2] 66)
  have hBA : B ≤ (W.alloc (.cells #[.int .u8 l.1, .int .u32 l.2] 66)).heap.size := by rw [World.size_alloc]; omega
  refine wp_append_any _ u v 22 ho B 66 i0 _ 2 8 Tryz.underlying22 hi hz0 hz1 hz2 rfl (by omega) _ y.code.length _ hs (hOA.at_ hr) _ _ 1 1 (cE l) hx (reads_new W 66 2 1 (cE l) rfl) (by simp [Value.oneCell', cE, xE]) (by simp only [maxLen]; omega) (by omega) hBA ?_
  intro v' w' hown hg hat
  obtain ⟨A, c, rfl, _, _⟩ := ownsRow_slice hown
  have hO' := hOA.turn hr hg (r' := ⟨66, 2, .slice A (y.code.length + 1) c, y.code.length + 1, y.code.flatMap cE ++ (cE l)⟩) hown (by
    rcases hat with h2 | h2
    · exact .inl h2
    · exact .inr (.inr ⟨_, h2, Nat.le_refl _⟩))
  have hb := (Below.refl B (W.alloc (.cells #[.int .u8 l.1, .int .u32 l.2] 66))).grown hg hBA (fun j hj => (hOA.lt_ (List.mem_of_getElem? hr) hj).1)
  have hgb := hO'.base (i := 0) (e := 28) (size := 1) (n := 6) (g := g) (c := 6) rfl
  have h1 := hO'.store (i := 0) (e := 28) (size := 1) (n := 6) (g := g) (c := 6) (j := 0) rfl (by show 0 < 6; omega) (.slice A (y.code.length + 1) c)
  have e : ((iRows g y s tl).set 1 ⟨66, 2, .slice A (y.code.length + 1) c, y.code.length + 1, y.code.flatMap cE ++ (cE l)⟩).set 0 ⟨28, 1, .slice (some ⟨g, 0, none⟩) 6 6, 6, ((imgV y s).toList).set 0 (.slice A (y.code.length + 1) c)⟩ = iRows g { y with code := y.code ++ [l] } { s with c := ⟨A, c⟩ } tl := by
    simp [iRows, imgV, u32s, u8s]
  refine h A c w' (by rw [← e]; exact h1) (hO'.cell (i := 0) (j := 0) rfl rfl) (hO'.frozen (i := 0) rfl 0) hgb.2 ((((Below.refl B W).alloc hB _).trans hb).setCell (p := ⟨g, 0, none⟩) hgb.1 _)
theorem ist_jmp {ops : Array Oper} {o : Oper} {a : Act} {K : Act → World → Prop} {Q : Exit → Act → World → Prop} {E : Prop} (hgd : o.guard = none) (u v : Operand)
    (ho : o.op = .call { callee := .builtin .append, args := #[u, v], argTypes := #[23, 23] }) (hO : Owns W B (iRows g y s tl)) (hB : B ≤ W.heap.size) (hs : a.eval u = .slice s.j.A y.jumps.length s.j.c) (l : Int)
    (hx : a.eval v = .slice (some ⟨W.heap.size, 0, none⟩) 1 1) (hl : y.jumps.length * 4 ≤ 140737488351232)
    (h : ∀ A c w', Owns (w'.setCell ⟨g, 1, none⟩ (.slice A (y.jumps.length + 1) c)) B (iRows g { y with jumps := y.jumps ++ [l] } { s with j := ⟨A, c⟩ } tl) → w'.cell? ⟨g, 1, none⟩ = some (.slice s.j.A y.jumps.length s.j.c) → w'.frozen? ⟨g, 1, none⟩ = false → g < w'.heap.size →
      Below B W (w'.setCell ⟨g, 1, none⟩ (.slice A (y.jumps.length + 1) c)) → K (a.put o.dst (.slice A (y.jumps.length + 1) c)) w') :
    if Region.wanted o (yielded ops a.tmps) = true then Oper.wp Tryz.prog o a (W.alloc (.cells #[.int .u32 l] 25)) K Q else E := by
  have hw : Region.wanted o (yielded ops a.tmps) = true := by simp [Region.wanted, hgd]
  rw [if_pos hw]
  obtain ⟨i0, hi, hz0, hz1, hz2⟩ := info_parts cw_info
  have hr : (iRows g y s tl)[2]? = some ⟨25, 1, .slice s.j.A y.jumps.length s.j.c, y.jumps.length, u32s y.jumps⟩ := rfl
  have hOA := hO.alloc (.cells #[.int .u32 l] 25)
  have hBA : B ≤ (W.alloc (.cells #[.int .u32 l] 25)).heap.size := by rw [World.size_alloc]; omega
  refine wp_append_any _ u v 23 ho B 25 i0 _ 1 4 Tryz.underlying23 hi hz0 hz1 hz2 rfl (by omega) _ y.jumps.length _ hs (hOA.at_ hr) _ _ 1 1 [.int .u32 l] hx (reads_new W 25 1 1 [.int .u32 l] rfl) (by simp [Value.oneCell', cE, xE]) (by simp only [maxLen]; omega) (by omega) hBA ?_
  intro v' w' hown hg hat
  obtain ⟨A, c, rfl, _, _⟩ := ownsRow_slice hown
  have hO' := hOA.turn hr hg (r' := ⟨25, 1, .slice A (y.jumps.length + 1) c, y.jumps.length + 1, u32s y.jumps ++ [.int .u32 l]⟩) hown (by
    rcases hat with h2 | h2
    · exact .inl h2
    · exact .inr (.inr ⟨_, h2, Nat.le_refl _⟩))
  have hb := (Below.refl B (W.alloc (.cells #[.int .u32 l] 25))).grown hg hBA (fun j hj => (hOA.lt_ (List.mem_of_getElem? hr) hj).1)
  have hgb := hO'.base (i := 0) (e := 28) (size := 1) (n := 6) (g := g) (c := 6) rfl
  have h1 := hO'.store (i := 0) (e := 28) (size := 1) (n := 6) (g := g) (c := 6) (j := 1) rfl (by show 1 < 6; omega) (.slice A (y.jumps.length + 1) c)
  have e : ((iRows g y s tl).set 2 ⟨25, 1, .slice A (y.jumps.length + 1) c, y.jumps.length + 1, u32s y.jumps ++ [.int .u32 l]⟩).set 0 ⟨28, 1, .slice (some ⟨g, 0, none⟩) 6 6, 6, ((imgV y s).toList).set 1 (.slice A (y.jumps.length + 1) c)⟩ = iRows g { y with jumps := y.jumps ++ [l] } { s with j := ⟨A, c⟩ } tl := by
    simp [iRows, imgV, u32s, u8s]
  refine h A c w' (by rw [← e]; exact h1) (hO'.cell (i := 0) (j := 1) rfl rfl) (hO'.frozen (i := 0) rfl 1) hgb.2 ((((Below.refl B W).alloc hB _).trans hb).setCell (p := ⟨g, 1, none⟩) hgb.1 _)
theorem ist_dat {ops : Array Oper} {o : Oper} {a : Act} {K : Act → World → Prop} {Q : Exit → Act → World → Prop} {E : Prop} (hgd : o.guard = none) (u v : Operand)
    (ho : o.op = .call { callee := .builtin .append, args := #[u, v], argTypes := #[24, 24] }) (hO : Owns W B (iRows g y s tl)) (hB : B ≤ W.heap.size) (hs : a.eval u = .slice s.d.A y.data.length s.d.c) (l : Int)
    (hx : a.eval v = .slice (some ⟨W.heap.size, 0, none⟩) 1 1) (hl : y.data.length * 1 ≤ 140737488351232)
    (h : ∀ A c w', Owns (w'.setCell ⟨g, 2, none⟩ (.slice A (y.data.length + 1) c)) B (iRows g { y with data := y.data ++ [l] } { s with d := ⟨A, c⟩ } tl) → w'.cell? ⟨g, 2, none⟩ = some (.slice s.d.A y.data.length s.d.c) → w'.frozen? ⟨g, 2, none⟩ = false → g < w'.heap.size →
      Below B W (w'.setCell ⟨g, 2, none⟩ (.slice A (y.data.length + 1) c)) → K (a.put o.dst (.slice A (y.data.length + 1) c)) w') :
    if Region.wanted o (yielded ops a.tmps) = true then Oper.wp Tryz.prog o a (W.alloc (.cells #[.int .u8 l] 5)) K Q else E := by
  have hw : Region.wanted o (yielded ops a.tmps) = true := by simp [Region.wanted, hgd]
  rw [if_pos hw]
  obtain ⟨i0, hi, hz0, hz1, hz2⟩ := info_parts cb_info
  have hr : (iRows g y s tl)[3]? = some ⟨5, 1, .slice s.d.A y.data.length s.d.c, y.data.length, u8s y.data⟩ := rfl
  have hOA := hO.alloc (.cells #[.int .u8 l] 5)
  have hBA : B ≤ (W.alloc (.cells #[.int .u8 l] 5)).heap.size := by rw [World.size_alloc]; omega
  refine wp_append_any _ u v 24 ho B 5 i0 _ 1 1 Tryz.underlying24 hi hz0 hz1 hz2 rfl (by omega) _ y.data.length _ hs (hOA.at_ hr) _ _ 1 1 [.int .u8 l] hx (reads_new W 5 1 1 [.int .u8 l] rfl) (by simp [Value.oneCell', cE, xE]) (by simp only [maxLen]; omega) (by omega) hBA ?_
  intro v' w' hown hg hat
  obtain ⟨A, c, rfl, _, _⟩ := ownsRow_slice hown
  have hO' := hOA.turn hr hg (r' := ⟨5, 1, .slice A (y.data.length + 1) c, y.data.length + 1, u8s y.data ++ [.int .u8 l]⟩) hown (by
    rcases hat with h2 | h2
    · exact .inl h2
    · exact .inr (.inr ⟨_, h2, Nat.le_refl _⟩))
  have hb := (Below.refl B (W.alloc (.cells #[.int .u8 l] 5))).grown hg hBA (fun j hj => (hOA.lt_ (List.mem_of_getElem? hr) hj).1)
  have hgb := hO'.base (i := 0) (e := 28) (size := 1) (n := 6) (g := g) (c := 6) rfl
  have h1 := hO'.store (i := 0) (e := 28) (size := 1) (n := 6) (g := g) (c := 6) (j := 2) rfl (by show 2 < 6; omega) (.slice A (y.data.length + 1) c)
  have e : ((iRows g y s tl).set 3 ⟨5, 1, .slice A (y.data.length + 1) c, y.data.length + 1, u8s y.data ++ [.int .u8 l]⟩).set 0 ⟨28, 1, .slice (some ⟨g, 0, none⟩) 6 6, 6, ((imgV y s).toList).set 2 (.slice A (y.data.length + 1) c)⟩ = iRows g { y with data := y.data ++ [l] } { s with d := ⟨A, c⟩ } tl := by
    simp [iRows, imgV, u32s, u8s]
  refine h A c w' (by rw [← e]; exact h1) (hO'.cell (i := 0) (j := 2) rfl rfl) (hO'.frozen (i := 0) rfl 2) hgb.2 ((((Below.refl B W).alloc hB _).trans hb).setCell (p := ⟨g, 2, none⟩) hgb.1 _)
theorem ist_nam {ops : Array Oper} {o : Oper} {a : Act} {K : Act → World → Prop} {Q : Exit → Act → World → Prop} {E : Prop} (hgd : o.guard = none) (u v : Operand)
    (ho : o.op = .call { callee := .builtin .append, args := #[u, v], argTypes := #[26, 26] }) (hO : Owns W B (iRows g y s tl)) (hB : B ≤ W.heap.size) (hs : a.eval u = .slice s.n.A y.names.length s.n.c) (l : ExpV)
    (hx : a.eval v = .slice (some ⟨W.heap.size, 0, none⟩) 1 1) (hl : y.names.length * 24 ≤ 140737488351232)
    (h : ∀ A c w', Owns (w'.setCell ⟨g, 5, none⟩ (.slice A (y.names.length + 1) c)) B (iRows g { y with names := y.names ++ [l] } { s with n := ⟨A, c⟩ } tl) → w'.cell? ⟨g, 5, none⟩ = some (.slice s.n.A y.names.length s.n.c) → w'.frozen? ⟨g, 5, none⟩ = false → g < w'.heap.size →
      Below B W (w'.setCell ⟨g, 5, none⟩ (.slice A (y.names.length + 1) c)) → K (a.put o.dst (.slice A (y.names.length + 1) c)) w') :
    if Region.wanted o (yielded ops a.tmps) = true then Oper.wp Tryz.prog o a (W.alloc (.cells #[.string l.name, .int .u32 l.at_] 44)) K Q else E := by
  have hw : Region.wanted o (yielded ops a.tmps) = true := by simp [Region.wanted, hgd]
  rw [if_pos hw]
  obtain ⟨i0, hi, hz0, hz1, hz2⟩ := info_parts cx_info
  have hr : (iRows g y s tl)[4]? = some ⟨44, 2, .slice s.n.A y.names.length s.n.c, y.names.length, y.names.flatMap xE⟩ := rfl
  have hOA := hO.alloc (.cells #[.string l.name, .int .u32 l.at_] 44)
  have hBA : B ≤ (W.alloc (.cells #[.string l.name, .int .u32 l.at_] 44)).heap.size := by rw [World.size_alloc]; omega
  refine wp_append_any _ u v 26 ho B 44 i0 _ 2 24 Tryz.underlying26 hi hz0 hz1 hz2 rfl (by omega) _ y.names.length _ hs (hOA.at_ hr) _ _ 1 1 (xE l) hx (reads_new W 44 2 1 (xE l) rfl) (by simp [Value.oneCell', cE, xE]) (by simp only [maxLen]; omega) (by omega) hBA ?_
  intro v' w' hown hg hat
  obtain ⟨A, c, rfl, _, _⟩ := ownsRow_slice hown
  have hO' := hOA.turn hr hg (r' := ⟨44, 2, .slice A (y.names.length + 1) c, y.names.length + 1, y.names.flatMap xE ++ (xE l)⟩) hown (by
    rcases hat with h2 | h2
    · exact .inl h2
    · exact .inr (.inr ⟨_, h2, Nat.le_refl _⟩))
  have hb := (Below.refl B (W.alloc (.cells #[.string l.name, .int .u32 l.at_] 44))).grown hg hBA (fun j hj => (hOA.lt_ (List.mem_of_getElem? hr) hj).1)
  have hgb := hO'.base (i := 0) (e := 28) (size := 1) (n := 6) (g := g) (c := 6) rfl
  have h1 := hO'.store (i := 0) (e := 28) (size := 1) (n := 6) (g := g) (c := 6) (j := 5) rfl (by show 5 < 6; omega) (.slice A (y.names.length + 1) c)
  have e : ((iRows g y s tl).set 4 ⟨44, 2, .slice A (y.names.length + 1) c, y.names.length + 1, y.names.flatMap xE ++ (xE l)⟩).set 0 ⟨28, 1, .slice (some ⟨g, 0, none⟩) 6 6, 6, ((imgV y s).toList).set 5 (.slice A (y.names.length + 1) c)⟩ = iRows g { y with names := y.names ++ [l] } { s with n := ⟨A, c⟩ } tl := by
    simp [iRows, imgV, u32s, u8s]
  refine h A c w' (by rw [← e]; exact h1) (hO'.cell (i := 0) (j := 5) rfl rfl) (hO'.frozen (i := 0) rfl 5) hgb.2 ((((Below.refl B W).alloc hB _).trans hb).setCell (p := ⟨g, 5, none⟩) hgb.1 _)
end
def y0I : ImgV := ⟨[], [], [], 0, 0, []⟩
def s0I : ImgS := ⟨⟨none, 0⟩, ⟨none, 0⟩, ⟨none, 0⟩, ⟨none, 0⟩⟩
theorem start0I {W : World} {B g : Nat} (h : Owns W B [⟨28, 1, .slice (some ⟨g, 0, none⟩) 6 6, 6, z6.toList⟩]) (hB : B ≤ W.heap.size) : Owns W B (iRows g y0I s0I []) :=
  (((h.push (Below.refl _ _) (r := ⟨66, 2, .slice none 0 0, 0, []⟩) (World.ownsRow_nil _ _ _ _) hB).push (Below.refl _ _) (r := ⟨25, 1, .slice none 0 0, 0, []⟩) (World.ownsRow_nil _ _ _ _) hB).push (Below.refl _ _) (r := ⟨5, 1, .slice none 0 0, 0, []⟩) (World.ownsRow_nil _ _ _ _) hB).push (Below.refl _ _) (r := ⟨44, 2, .slice none 0 0, 0, []⟩) (World.ownsRow_nil _ _ _ _) hB
def ownI (y : ImgV) (s : ImgS) : List Ro := [⟨66, 2, .slice s.c.A y.code.length s.c.c, y.code.length, y.code.flatMap cE⟩, ⟨25, 1, .slice s.j.A y.jumps.length s.j.c, y.jumps.length, u32s y.jumps⟩,
  ⟨5, 1, .slice s.d.A y.data.length s.d.c, y.data.length, u8s y.data⟩, ⟨44, 2, .slice s.n.A y.names.length s.n.c, y.names.length, y.names.flatMap xE⟩]
theorem copied_yes {y : ImgV} {s : ImgS} {w W : World} {B g q : Nat} {cs : Array Value} (hO : Owns W B (iRows g y s [])) (hq : q < B) (hB : w.heap.size ≤ q ∧ w.heap.size ≤ B) (hb : Below w.heap.size w W) (hc : cs = imgV y s) :
    ∃ s', (Ending.returned (.agg cs)) = .returned (.agg (imgV y s')) ∧ Owns (W.setRow q cs) w.heap.size (ownI y s') ∧ Below w.heap.size w (W.setRow q cs) := by
  subst hc
  refine ⟨s, rfl, ?_, below_setRow hb hB.1 _⟩
  have h1 := (hO.keepB (w' := W.setRow q (imgV y s)) fun k hk _ => setRow_other _ _ _ _ (by omega)).lo hB.2
  refine h1.pick [⟨28, 1, .slice (some ⟨g, 0, none⟩) 6 6, 6, (imgV y s).toList⟩] fun cnt one k1 k2 k3 => ?_
  unfold iRows ownI
  simp only [k2, k3]
  omega
/-- an image that one owns may be read -/
theorem imgR_own {W : World} {B : Nat} {y : ImgV} {s : ImgS} (h : Owns W B (ownI y s)) (hB : B ≤ W.heap.size) : ImgR W W.heap.size y s := by
  have h0 := h.at_ (i := 0) rfl
  have h1 := h.at_ (i := 1) rfl
  have h2 := h.at_ (i := 2) rfl
  have h3 := h.at_ (i := 3) rfl
  exact ⟨Reads.of_own h0, Reads.of_own h1, Reads.of_own h2, Reads.of_own h3, own_cap h0, own_cap h1, own_cap h2, own_cap h3⟩
end Go.Proofs.YtikbegmodacopaaGreatDoor
