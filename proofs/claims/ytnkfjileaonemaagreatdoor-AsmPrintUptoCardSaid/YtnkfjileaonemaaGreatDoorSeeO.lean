/-
  LentObject: an object in memory of its own, and its whole lists, with marks behind them.
-/
import Derived.Test.YtnkfjileaonemaaGreatDoorASame
import Derived.Test.YtnkfjileaonemaaGreatDoorIsaR
import Derived.Test.YtnkfjileaonemaaGreatDoorRowK
import Derived.Test.YtnkfjileaonemaaGreatDoorREsc
import Derived.Test.YtnkfjileaonemaaGreatDoorSeeS
namespace Go.Proofs.YtnkfjileaonemaaGreatDoor
open Go.RowKit Go.PlainAid Go.BigFrame
set_option linter.unusedSimpArgs false
set_option linter.unusedVariables false
set_option maxRecDepth 100000
def markB : ByteArray := ⟨#[109, 97, 114, 107]⟩
def mkL (i : Nat) : LabV := ⟨markB, 0, i, false⟩
def mkF (i : Nat) : FixV := ⟨0, i, markB, 0⟩
def mkE (i : Nat) : EntV := ⟨markB, textOf [i]⟩
def marksL (n : Nat) : List LabV := (List.range n).map mkL
def marksF (n : Nat) : List FixV := (List.range n).map mkF
def marksE (n : Nat) : List EntV := (List.range n).map mkE
theorem marksL_succ (n : Nat) : marksL (n + 1) = marksL n ++ [mkL n] := by simp [marksL, List.range_succ]
theorem marksF_succ (n : Nat) : marksF (n + 1) = marksF n ++ [mkF n] := by simp [marksF, List.range_succ]
theorem marksE_succ (n : Nat) : marksE (n + 1) = marksE n ++ [mkE n] := by simp [marksE, List.range_succ]
theorem marksL_get {n i : Nat} (h : i < n) : (marksL n)[i]? = some (mkL i) := by simp [marksL, h]
theorem marksF_get {n i : Nat} (h : i < n) : (marksF n)[i]? = some (mkF i) := by simp [marksF, h]
theorem marksE_get {n i : Nat} (h : i < n) : (marksE n)[i]? = some (mkE i) := by simp [marksE, h]
theorem lab_info : (Tryz.prog.info? 45).map (fun i => (i.zero, i.size, i.bytes)) = some (some (.agg #[.string ⟨#[]⟩, .int .u8 0, .int .u32 0, .bool false]), 4, 32) := by kernel_rfl
theorem fix_info : (Tryz.prog.info? 47).map (fun i => (i.zero, i.size, i.bytes)) = some (some (.agg #[.int .u8 0, .int .u32 0, .string ⟨#[]⟩, .int .u32 0]), 4, 32) := by kernel_rfl
theorem ent_info : (Tryz.prog.info? 49).map (fun i => (i.zero, i.size, i.bytes)) = some (some (.agg #[.string ⟨#[]⟩, .string ⟨#[]⟩]), 2, 32) := by kernel_rfl
theorem one_lE (l : List LabV) : ∀ u ∈ l.flatMap lE, u.oneCell' = true := by
  intro u hu
  obtain ⟨t, _, h⟩ := List.mem_flatMap.1 hu
  simp only [lE, List.mem_cons, List.not_mem_nil, or_false] at h
  rcases h with rfl | rfl | rfl | rfl <;> rfl
theorem one_fE (l : List FixV) : ∀ u ∈ l.flatMap fE, u.oneCell' = true := by
  intro u hu
  obtain ⟨t, _, h⟩ := List.mem_flatMap.1 hu
  simp only [fE, List.mem_cons, List.not_mem_nil, or_false] at h
  rcases h with rfl | rfl | rfl | rfl <;> rfl
theorem one_eE (l : List EntV) : ∀ u ∈ l.flatMap eE, u.oneCell' = true := by
  intro u hu
  obtain ⟨t, _, h⟩ := List.mem_flatMap.1 hu
  simp only [eE, List.mem_cons, List.not_mem_nil, or_false] at h
  rcases h with rfl | rfl <;> rfl
/-- the lists lie within what may be made -/
structure ObjFit (x : ObjV) : Prop where
  c : x.code.length * 8 ≤ 140737488351232
  d : x.data.length ≤ 140737488351232
  l : x.labels.length * 32 ≤ 140737488351232
  f : x.fixes.length * 32 ≤ 140737488351232
  t : x.targets.length * 16 ≤ 140737488351232
  e : x.entries.length * 32 ≤ 140737488351232
/-- what the region holds on to -/
theorem lent_keep {b n nd nt : Nat} {cA dA tA : Option Addr} {cc dc tc : Nat} {z sk : Int} {W1 W W' : World} (hz : W1.heap.size = b + 3)
    (h : W.cell? ⟨b, 0, none⟩ = some (.slice cA n cc) ∧ W.cell? ⟨b, 1, none⟩ = some (.slice dA nd dc) ∧ W.cell? ⟨b, 2, none⟩ = some (.int .u32 z) ∧ W.cell? ⟨b, 3, none⟩ = some (.int .u32 sk) ∧ W.cell? ⟨b, 6, none⟩ = some (.slice tA nt tc) ∧ Below (b + 3) W1 W)
    (hb : Below W.heap.size W W') : W'.cell? ⟨b, 0, none⟩ = some (.slice cA n cc) ∧ W'.cell? ⟨b, 1, none⟩ = some (.slice dA nd dc) ∧ W'.cell? ⟨b, 2, none⟩ = some (.int .u32 z) ∧ W'.cell? ⟨b, 3, none⟩ = some (.int .u32 sk) ∧ W'.cell? ⟨b, 6, none⟩ = some (.slice tA nt tc) ∧ Below (b + 3) W1 W' := by
  obtain ⟨h0, h1, h2, h3, h6, h⟩ := h
  have hs := h.size
  have hlt : b < W.heap.size := by omega
  exact ⟨(hb.cell (p := ⟨b, 0, none⟩) hlt).trans h0, (hb.cell (p := ⟨b, 1, none⟩) hlt).trans h1, (hb.cell (p := ⟨b, 2, none⟩) hlt).trans h2, (hb.cell (p := ⟨b, 3, none⟩) hlt).trans h3, (hb.cell (p := ⟨b, 6, none⟩) hlt).trans h6, h.trans (hb.mono (by omega))⟩
theorem z8_max : (#[.slice none 0 0, .slice none 0 0, .int .u32 0, .int .u32 0, .slice none 0 0, .slice none 0 0, .slice none 0 0, .slice none 0 0] : Array Value).size ≤ maxLen := by simp [maxLen]
theorem lent_drew {W : World} {B : Nat} {rs : List Ro} (h : Owns W B rs ∧ B ≤ W.heap.size) : Owns W.drew B rs ∧ B ≤ W.drew.heap.size := h
theorem lent_push {W W' : World} {B n size : Nat} {rs : List Ro} {e : TypeId} {v : Value} {xs : List Value} (h : Owns W B rs ∧ B ≤ W.heap.size) (hb : Below W.heap.size W W') (hr : W'.ownsRow W.heap.size e size v n xs) : Owns W' B (rs ++ [⟨e, size, v, n, xs⟩]) ∧ B ≤ W'.heap.size :=
  ⟨h.1.push hb (r := ⟨e, size, v, n, xs⟩) hr h.2, Nat.le_trans h.2 hb.size⟩
theorem lent_box {W : World} {B : Nat} {rs : List Ro} (h : Owns W B rs ∧ B ≤ W.heap.size) : Owns (W.alloc (.cells #[.slice none 0 0, .slice none 0 0, .int .u32 0, .int .u32 0, .slice none 0 0, .slice none 0 0, .slice none 0 0, .slice none 0 0] 30)) B (rs ++ [⟨30, 1, .slice (some ⟨W.heap.size, 0, none⟩) 8 8, 8, [.slice none 0 0, .slice none 0 0, .int .u32 0, .int .u32 0, .slice none 0 0, .slice none 0 0, .slice none 0 0, .slice none 0 0]⟩]) ∧ B ≤ (W.alloc (.cells #[.slice none 0 0, .slice none 0 0, .int .u32 0, .int .u32 0, .slice none 0 0, .slice none 0 0, .slice none 0 0, .slice none 0 0] 30)).heap.size :=
  ⟨h.1.box 30 #[.slice none 0 0, .slice none 0 0, .int .u32 0, .int .u32 0, .slice none 0 0, .slice none 0 0, .slice none 0 0, .slice none 0 0] h.2 z8_max, by have := h.2; simp; omega⟩
theorem box_new {W : World} {B : Nat} {rs : List Ro} (h : Owns W B rs ∧ B ≤ W.heap.size) : Blk (W.alloc (.cells #[.slice none 0 0, .slice none 0 0, .int .u32 0, .int .u32 0, .slice none 0 0, .slice none 0 0, .slice none 0 0, .slice none 0 0] 30)) W.heap.size 30 #[.slice none 0 0, .slice none 0 0, .int .u32 0, .int .u32 0, .slice none 0 0, .slice none 0 0, .slice none 0 0, .slice none 0 0] ∧ B ≤ W.heap.size := ⟨Blk.new _ _ _, h.2⟩
theorem box_drew {W : World} {g B : Nat} {t : TypeId} {cs : Array Value} (h : Blk W g t cs ∧ B ≤ g) : Blk W.drew g t cs ∧ B ≤ g := h
theorem box_below {W W' : World} {g B : Nat} {t : TypeId} {cs : Array Value} (h : Blk W g t cs ∧ B ≤ g) (hb : Below W.heap.size W W') : Blk W' g t cs ∧ B ≤ g := ⟨h.1.below hb h.1.lt, h.2⟩
theorem box_st {W : World} {g B : Nat} {cs : Array Value} (h : Blk W g 30 #[.slice none 0 0, .slice none 0 0, .int .u32 0, .int .u32 0, .slice none 0 0, .slice none 0 0, .slice none 0 0, .slice none 0 0] ∧ B ≤ g) (hs : cs.size = 8) (h1 : cs.all (·.oneCell') = true) : (storeVar 30 ⟨g, 0, none⟩ (.agg cs)).run Tryz.prog W = .ok () (W.setRow g cs) :=
  run_storeVar_row (P := Tryz.prog) W g 30 30 _ cs h.1 (by rw [hs]; kernel_rfl) (by rw [hs]; rfl) h1
theorem Owns.rerow {W : World} {B i g n : Nat} {rs : List Ro} {e : TypeId} {xs : List Value} (h : Owns W B rs) (hr : rs[i]? = some ⟨e, 1, .slice (some ⟨g, 0, none⟩) n n, n, xs⟩) (cs : Array Value) (hs : cs.size = n) :
    Owns (W.setRow g cs) B (rs.set i ⟨e, 1, .slice (some ⟨g, 0, none⟩) n n, n, cs.toList⟩) := by
  have h1 := h.at_ hr
  have hb := own_blk h1
  have hB := (h.base hr).1
  have hm : n ≤ maxLen := by
    rcases h1.2 with ⟨h2, _⟩ | ⟨g', cap, cur, hv, _, _, hn, hm, _⟩
    · cases h2
    · exact Nat.le_trans hn hm
  subst hs
  refine h.turn hr ⟨rfl, rfl, rfl, by simp [World.setRow], fun k _ hk => setRow_other W g k cs (fun e => hk (by rw [e]; rfl))⟩ (r' := ⟨e, 1, .slice (some ⟨g, 0, none⟩) cs.size cs.size, cs.size, cs.toList⟩) (blk_own (setRow_heap W g _ cs e (0, 0) hb) hB hm) (.inl rfl)
theorem Owns.box8 {W : World} {B : Nat} {rs : List Ro} (h : Owns W B rs ∧ B ≤ W.heap.size) (v0 v1 v2 v3 v4 v5 v6 v7 : Value) :
    Owns (W.alloc (.cells #[v0, v1, v2, v3, v4, v5, v6, v7] 30)) B (rs ++ [⟨30, 1, .slice (some ⟨W.heap.size, 0, none⟩) 8 8, 8, [v0, v1, v2, v3, v4, v5, v6, v7]⟩]) :=
  h.1.box 30 #[v0, v1, v2, v3, v4, v5, v6, v7] h.2 (by simp [maxLen])
theorem Owns.re8 {W : World} {B i g : Nat} {rs : List Ro} {e : TypeId} {xs : List Value} (h : Owns W B rs) (hr : rs[i]? = some ⟨e, 1, .slice (some ⟨g, 0, none⟩) 8 8, 8, xs⟩) (v0 v1 v2 v3 v4 v5 v6 v7 : Value) :
    Owns (W.setRow g #[v0, v1, v2, v3, v4, v5, v6, v7]) B (rs.set i ⟨e, 1, .slice (some ⟨g, 0, none⟩) 8 8, 8, [v0, v1, v2, v3, v4, v5, v6, v7]⟩) := h.rerow hr #[v0, v1, v2, v3, v4, v5, v6, v7] rfl
/-- a box of eight cells, whatever it holds -/
def Box8 (W : World) (g : Nat) : Prop := ∃ cs : Array Value, Blk W g 30 cs ∧ cs.size = 8
theorem Box8.drew {W : World} {g : Nat} (h : Box8 W g) : Box8 W.drew g := h
theorem Box8.alloc {W : World} {g : Nat} (h : Box8 W g) (o : Obj) : Box8 (W.alloc o) g := by
  obtain ⟨cs, h1, h2⟩ := h
  exact ⟨cs, h1.alloc o, h2⟩
theorem Box8.below {W W' : World} {g B : Nat} (h : Box8 W g) (hb : Below B W W') (hg : g < B) : Box8 W' g := by
  obtain ⟨cs, h1, h2⟩ := h
  exact ⟨cs, h1.below hb hg, h2⟩
theorem Box8.st {W : World} {g : Nat} (h : Box8 W g) {cs : Array Value} (hs : cs.size = 8) (h1 : cs.all (·.oneCell') = true) : (storeVar 30 ⟨g, 0, none⟩ (.agg cs)).run Tryz.prog W = .ok () (W.setRow g cs) := by
  obtain ⟨c, h2, h3⟩ := h
  exact run_storeVar_row (P := Tryz.prog) W g 30 30 _ cs h2 (by rw [hs]; kernel_rfl) (by rw [hs, h3]) h1
theorem Box8.far {W : World} {g k : Nat} (h : Box8 W g) (hk : g ≠ k) (cs : Array Value) : Box8 (W.setRow k cs) g := by
  obtain ⟨c, h2, h3⟩ := h
  exact ⟨c, (setRow_other W k g cs hk).trans h2, h3⟩
theorem Box8.set {W : World} {g : Nat} (h : Box8 W g) {cs : Array Value} (hs : cs.size = 8) : Box8 (W.setRow g cs) g := by
  obtain ⟨c, h2, h3⟩ := h
  exact ⟨cs, setRow_heap W g _ cs _ (0, 0) h2, hs⟩
theorem lent_start {b n nd nt : Nat} {cA dA tA : Option Addr} {cc dc tc : Nat} {z sk : Int} {W1 : World} (h : W1.cell? ⟨b, 0, none⟩ = some (.slice cA n cc) ∧ W1.cell? ⟨b, 1, none⟩ = some (.slice dA nd dc) ∧ W1.cell? ⟨b, 2, none⟩ = some (.int .u32 z) ∧ W1.cell? ⟨b, 3, none⟩ = some (.int .u32 sk) ∧ W1.cell? ⟨b, 6, none⟩ = some (.slice tA nt tc)) : W1.drew.cell? ⟨b, 0, none⟩ = some (.slice cA n cc) ∧ W1.drew.cell? ⟨b, 1, none⟩ = some (.slice dA nd dc) ∧ W1.drew.cell? ⟨b, 2, none⟩ = some (.int .u32 z) ∧ W1.drew.cell? ⟨b, 3, none⟩ = some (.int .u32 sk) ∧ W1.drew.cell? ⟨b, 6, none⟩ = some (.slice tA nt tc) ∧ Below (b + 3) W1 W1.drew :=
  ⟨h.1, h.2.1, h.2.2.1, h.2.2.2.1, h.2.2.2.2, (Below.refl _ _).drew⟩
theorem lent_keepB {b n nd nt : Nat} {cA dA tA : Option Addr} {cc dc tc : Nat} {z sk : Int} {W1 W W' : World}
    (h : W.cell? ⟨b, 0, none⟩ = some (.slice cA n cc) ∧ W.cell? ⟨b, 1, none⟩ = some (.slice dA nd dc) ∧ W.cell? ⟨b, 2, none⟩ = some (.int .u32 z) ∧ W.cell? ⟨b, 3, none⟩ = some (.int .u32 sk) ∧ W.cell? ⟨b, 6, none⟩ = some (.slice tA nt tc) ∧ Below (b + 3) W1 W)
    (hb : Below (b + 3) W W') : W'.cell? ⟨b, 0, none⟩ = some (.slice cA n cc) ∧ W'.cell? ⟨b, 1, none⟩ = some (.slice dA nd dc) ∧ W'.cell? ⟨b, 2, none⟩ = some (.int .u32 z) ∧ W'.cell? ⟨b, 3, none⟩ = some (.int .u32 sk) ∧ W'.cell? ⟨b, 6, none⟩ = some (.slice tA nt tc) ∧ Below (b + 3) W1 W' := by
  obtain ⟨h0, h1, h2, h3, h6, h⟩ := h
  have hlt : b < b + 3 := by omega
  exact ⟨(hb.cell (p := ⟨b, 0, none⟩) hlt).trans h0, (hb.cell (p := ⟨b, 1, none⟩) hlt).trans h1, (hb.cell (p := ⟨b, 2, none⟩) hlt).trans h2, (hb.cell (p := ⟨b, 3, none⟩) hlt).trans h3, (hb.cell (p := ⟨b, 6, none⟩) hlt).trans h6, h.trans hb⟩
theorem below_swap {B : Nat} {W : World} (h : B ≤ W.heap.size) (o o' : Obj) : Below B (W.alloc o) (W.alloc o') :=
  ⟨rfl, rfl, rfl, by simp, fun k hk => by rw [Below.heap_alloc _ _ _ (by omega), Below.heap_alloc _ _ _ (by omega)]⟩
theorem lent_fin {b : Nat} {W1 W : World} {P1 P2 P3 P4 P5 : Prop} (h : P1 ∧ P2 ∧ P3 ∧ P4 ∧ P5 ∧ Below (b + 3) W1 W) : Below (b + 3) W1 W := h.2.2.2.2.2
theorem lent_low {b : Nat} {w W1 W : World} {P1 P2 P3 P4 P5 : Prop} (hz : W1.heap.size = b + 3) (h0 : Below b w W1) (h : P1 ∧ P2 ∧ P3 ∧ P4 ∧ P5 ∧ Below (b + 3) W1 W) : Below b w W := h0.trans (h.2.2.2.2.2.mono (by omega))

theorem Owns.keepB {w w' : World} {B : Nat} {rs : List Ro} (h : Owns w B rs) (hb : ∀ k, B ≤ k → k < w.heap.size → w'.heap[k]? = w.heap[k]?) : Owns w' B rs :=
  ⟨fun r hr => by
    have h1 := h.1 r hr
    refine ⟨h1.1, ?_⟩
    rcases h1.2 with h2 | ⟨g, cap, cur, hv, hB, hg, rest⟩
    · exact .inl h2
    · exact .inr ⟨g, cap, cur, hv, hB, (hb g hB (Array.getElem?_eq_some_iff.1 hg).1).trans hg, rest⟩, h.2⟩
theorem results_two_rows {P : Program} {fn : Func} {p q : Tmp} {ty : TypeId} (h : fn.results = #[.cell p ty, .cell q ty]) (tmps : Array Value) (w : World) (g g' : Nat) (t : TypeId) (cs cs' : Array Value) (d : TypeDesc)
    (hp : tmps.getD p undef = .pointer (some ⟨g, 0, none⟩)) (hq : tmps.getD q undef = .pointer (some ⟨g', 0, none⟩)) (hg : w.heap[g]? = some (.cells cs t (0, 0))) (hg' : w.heap[g']? = some (.cells cs' t (0, 0)))
    (hu : P.underlying ty = some d) (hd : (match d with | .struct _ | .array _ _ => true | _ => false) = true) (hi : (P.info? ty).map (·.size) = some cs.size) (hi' : (P.info? ty).map (·.size) = some cs'.size) :
    (results fn tmps).run P w = .ok (.tuple #[.agg cs, .agg cs']) w := by
  have hp' : tmps[p]?.getD undef = .pointer (some ⟨g, 0, none⟩) := by simpa using hp
  have hq' : tmps[q]?.getD undef = .pointer (some ⟨g', 0, none⟩) := by simpa using hq
  simp [results, h, hp', hq', asAddr, run_loadVar_row w g t ty cs (0, 0) d hg hu hd hi, run_loadVar_row w g' t ty cs' (0, 0) d hg' hu hd hi']
theorem obj_size : (Tryz.prog.info? 30).map (·.size) = some 8 := by kernel_rfl
/-- both boxes, and what lies below -/
structure LS (b g m : Nat) (F L : Array Value) (rs : List Ro) (w W : World) : Prop where
  bg : Blk W g 30 F
  bm : Blk W m 30 L
  x1 : Box8 W (b + 1)
  x2 : Box8 W (b + 2)
  ow : Owns W (b + 3) rs
  bl : Below b w W
  ng : b + 3 ≤ g
  nm : b + 3 ≤ m
section
variable {b g m : Nat} {F L : Array Value} {rs : List Ro} {w W : World}
theorem LS.drew (h : LS b g m F L rs w W) : LS b g m F L rs w W.drew := ⟨h.bg, h.bm, h.x1, h.x2, h.ow, h.bl.drew, h.ng, h.nm⟩
theorem LS.setR (h : LS b g m F L rs w W) {k : Nat} (hk : k = b + 1 ∨ k = b + 2) {cs : Array Value} (hs : cs.size = 8) : LS b g m F L rs w (W.setRow k cs) := by
  have h1 := h.ng
  have h2 := h.nm
  refine ⟨(setRow_other W k g cs (by omega)).trans h.bg, (setRow_other W k m cs (by omega)).trans h.bm, ?_, ?_, h.ow.keepB (fun j hj _ => setRow_other W k j cs (by omega)), below_setRow h.bl (by omega) cs, h.ng, h.nm⟩
  · rcases hk with rfl | rfl
    · exact h.x1.set hs
    · exact h.x1.far (by omega) cs
  · rcases hk with rfl | rfl
    · exact h.x2.far (by omega) cs
    · exact h.x2.set hs
theorem LS.two12 (h : LS b g m F L rs w W) (A C : Array Value) : ((W.setRow (b + 1) A).setRow (b + 2) C).heap[b + 1]? = some (.cells A 30 (0, 0)) ∧ ((W.setRow (b + 1) A).setRow (b + 2) C).heap[b + 2]? = some (.cells C 30 (0, 0)) := by
  obtain ⟨c1, h1, _⟩ := h.x1
  obtain ⟨c2, h2, _⟩ := h.x2
  exact ⟨(setRow_other _ _ _ _ (by omega)).trans (setRow_heap _ _ _ _ _ _ h1), setRow_heap _ _ _ _ _ _ ((setRow_other _ _ _ _ (by omega)).trans h2)⟩
theorem LS.two21 (h : LS b g m F L rs w W) (A C : Array Value) : ((W.setRow (b + 2) C).setRow (b + 1) A).heap[b + 1]? = some (.cells A 30 (0, 0)) ∧ ((W.setRow (b + 2) C).setRow (b + 1) A).heap[b + 2]? = some (.cells C 30 (0, 0)) := by
  obtain ⟨c1, h1, _⟩ := h.x1
  obtain ⟨c2, h2, _⟩ := h.x2
  exact ⟨setRow_heap _ _ _ _ _ _ ((setRow_other _ _ _ _ (by omega)).trans h1), (setRow_other _ _ _ _ (by omega)).trans (setRow_heap _ _ _ _ _ _ h2)⟩
end
theorem ls_all {b g m : Nat} {u0 u1 u2 u3 u4 u5 u6 u7 v0 v1 v2 v3 v4 v5 v6 v7 : Value} {rs : List Ro} {w W : World} (h : LS b g m #[u0, u1, u2, u3, u4, u5, u6, u7] #[v0, v1, v2, v3, v4, v5, v6, v7] rs w W) : W.cell? ⟨g, 0, none⟩ = some (u0) ∧ W.cell? ⟨g, 1, none⟩ = some (u1) ∧ W.cell? ⟨g, 2, none⟩ = some (u2) ∧ W.cell? ⟨g, 3, none⟩ = some (u3) ∧ W.cell? ⟨g, 4, none⟩ = some (u4) ∧ W.cell? ⟨g, 5, none⟩ = some (u5) ∧ W.cell? ⟨g, 6, none⟩ = some (u6) ∧ W.cell? ⟨g, 7, none⟩ = some (u7) ∧ W.cell? ⟨m, 0, none⟩ = some (v0) ∧ W.cell? ⟨m, 1, none⟩ = some (v1) ∧ W.cell? ⟨m, 2, none⟩ = some (v2) ∧ W.cell? ⟨m, 3, none⟩ = some (v3) ∧ W.cell? ⟨m, 4, none⟩ = some (v4) ∧ W.cell? ⟨m, 5, none⟩ = some (v5) ∧ W.cell? ⟨m, 6, none⟩ = some (v6) ∧ W.cell? ⟨m, 7, none⟩ = some (v7) ∧ LS b g m #[u0, u1, u2, u3, u4, u5, u6, u7] #[v0, v1, v2, v3, v4, v5, v6, v7] (rs) w W := ⟨h.bg.cell 0, h.bg.cell 1, h.bg.cell 2, h.bg.cell 3, h.bg.cell 4, h.bg.cell 5, h.bg.cell 6, h.bg.cell 7, h.bm.cell 0, h.bm.cell 1, h.bm.cell 2, h.bm.cell 3, h.bm.cell 4, h.bm.cell 5, h.bm.cell 6, h.bm.cell 7, h⟩
theorem ls_of {b g m : Nat} {F L : Array Value} {rs : List Ro} {w W : World} {P0 P1 P2 P3 P4 P5 P6 P7 P8 P9 P10 P11 P12 P13 P14 P15 : Prop} (h : P0 ∧ P1 ∧ P2 ∧ P3 ∧ P4 ∧ P5 ∧ P6 ∧ P7 ∧ P8 ∧ P9 ∧ P10 ∧ P11 ∧ P12 ∧ P13 ∧ P14 ∧ P15 ∧ LS b g m F L rs w W) : LS b g m F L rs w W := h.2.2.2.2.2.2.2.2.2.2.2.2.2.2.2.2

/-- the whole lists: with marks behind them -/
noncomputable def fullO (x : ObjV) : ObjV := ⟨x.code ++ marksC 64, x.data ++ marks8 0 0 64, x.zero, x.stack, x.labels ++ marksL 64, x.fixes ++ marksF 64, x.targets ++ marksS 64, x.entries ++ marksE 64⟩
def ownO (x : ObjV) (s : ObjS) : List Ro := [⟨52, 2, .slice s.c.A x.code.length s.c.c, x.code.length, x.code.flatMap cE⟩, ⟨5, 1, .slice s.d.A x.data.length s.d.c, x.data.length, u8s x.data⟩, ⟨9, 1, .slice s.t.A x.targets.length s.t.c, x.targets.length, strV x.targets⟩, ⟨45, 4, .slice s.l.A x.labels.length s.l.c, x.labels.length, x.labels.flatMap lE⟩, ⟨47, 4, .slice s.f.A x.fixes.length s.f.c, x.fixes.length, x.fixes.flatMap fE⟩, ⟨49, 2, .slice s.e.A x.entries.length s.e.c, x.entries.length, x.entries.flatMap eE⟩]
def capsO (x : ObjV) (s : ObjS) : Prop := x.code.length ≤ s.c.c ∧ x.data.length ≤ s.d.c ∧ x.labels.length ≤ s.l.c ∧ x.fixes.length ≤ s.f.c ∧ x.targets.length ≤ s.t.c ∧ x.entries.length ≤ s.e.c
theorem marksC_len (n : Nat) : (marksC n).length = n := by simp [marksC]
theorem marksL_len (n : Nat) : (marksL n).length = n := by simp [marksL]
theorem marksF_len (n : Nat) : (marksF n).length = n := by simp [marksF]
theorem marksE_len (n : Nat) : (marksE n).length = n := by simp [marksE]
theorem Reads.of_owns {W : World} {B i : Nat} {rs : List Ro} {e : TypeId} {size n c : Nat} {A : Option Addr} {xs : List Value} (h : Owns W B rs) (hr : rs[i]? = some ⟨e, size, .slice A n c, n, xs⟩) : Reads W W.heap.size size A n xs := Reads.of_own (h.at_ hr)
theorem ownO_R {W : World} {B : Nat} {x : ObjV} {s : ObjS} (h : Owns W B (ownO x s)) (hc : capsO x s) : ObjR W W.heap.size x s :=
  ⟨Reads.of_owns (i := 0) h rfl, Reads.of_owns (i := 1) h rfl, Reads.of_owns (i := 3) h rfl, Reads.of_owns (i := 4) h rfl, Reads.of_owns (i := 2) h rfl, Reads.of_owns (i := 5) h rfl, hc⟩
theorem Reads.pre {W : World} {B size n m : Nat} {A : Option Addr} {xs ys : List Value} (h : Reads W B size A (n + m) (xs ++ ys)) (hl : xs.length = n * size) : Reads W B size A n xs :=
  ⟨hl, fun hn => by
    obtain ⟨ad, e, hb, hc⟩ := h.2 (by omega)
    exact ⟨ad, e, hb, fun j u hu => hc j u (by rw [List.getElem?_append_left (List.getElem?_eq_some_iff.1 hu).1]; exact hu)⟩⟩
theorem u8s_append (a b : List Int) : u8s (a ++ b) = u8s a ++ u8s b := by simp [u8s]
theorem strV_append (a b : List ByteArray) : strV (a ++ b) = strV a ++ strV b := by simp [strV]
theorem ObjR.pre {W : World} {B : Nat} {x : ObjV} {s : ObjS} (h : ObjR W B (fullO x) s) : ObjR W B x s := by
  obtain ⟨rc, rd, rl, rf, rt, re, k1, k2, k3, k4, k5, k6⟩ := h
  simp only [fullO, List.length_append, marksC_len, marks8_len, marksS_len, marksL_len, marksF_len, marksE_len] at rc rd rl rf rt re k1 k2 k3 k4 k5 k6
  rw [List.flatMap_append] at rc rl rf re
  rw [u8s_append] at rd
  rw [strV_append] at rt
  exact ⟨rc.pre (enc_len cE_len _), rd.pre (by simp [u8s]), rl.pre (enc_len lE_len _), rf.pre (enc_len fE_len _), rt.pre (by simp [strV]), re.pre (enc_len eE_len _), by omega, by omega, by omega, by omega, by omega, by omega⟩
theorem objV_full (x : ObjV) (s : ObjS) : objV (fullO x) s = #[.slice s.c.A (x.code.length + 64) s.c.c, .slice s.d.A (x.data.length + 64) s.d.c, .int .u32 x.zero, .int .u32 x.stack, .slice s.l.A (x.labels.length + 64) s.l.c, .slice s.f.A (x.fixes.length + 64) s.f.c, .slice s.t.A (x.targets.length + 64) s.t.c, .slice s.e.A (x.entries.length + 64) s.e.c] := by
  simp only [objV, fullO, List.length_append, marksC_len, marks8_len, marksS_len, marksL_len, marksF_len, marksE_len]
theorem ownO_full (x : ObjV) (s : ObjS) : ownO (fullO x) s = [⟨52, 2, .slice s.c.A (x.code.length + 64) s.c.c, x.code.length + 64, (x.code ++ marksC 64).flatMap cE⟩, ⟨5, 1, .slice s.d.A (x.data.length + 64) s.d.c, x.data.length + 64, u8s (x.data ++ marks8 0 0 64)⟩, ⟨9, 1, .slice s.t.A (x.targets.length + 64) s.t.c, x.targets.length + 64, strV (x.targets ++ marksS 64)⟩, ⟨45, 4, .slice s.l.A (x.labels.length + 64) s.l.c, x.labels.length + 64, x.labels.flatMap lE ++ (marksL 64).flatMap lE⟩, ⟨47, 4, .slice s.f.A (x.fixes.length + 64) s.f.c, x.fixes.length + 64, x.fixes.flatMap fE ++ (marksF 64).flatMap fE⟩, ⟨49, 2, .slice s.e.A (x.entries.length + 64) s.e.c, x.entries.length + 64, x.entries.flatMap eE ++ (marksE 64).flatMap eE⟩] := by
  simp only [ownO, fullO, List.length_append, marksC_len, marks8_len, marksS_len, marksL_len, marksF_len, marksE_len, List.flatMap_append]
theorem capsO_full (x : ObjV) (s : ObjS) (h1 : x.code.length + 64 ≤ s.c.c) (h2 : x.data.length + 64 ≤ s.d.c) (h3 : x.labels.length + 64 ≤ s.l.c) (h4 : x.fixes.length + 64 ≤ s.f.c) (h5 : x.targets.length + 64 ≤ s.t.c) (h6 : x.entries.length + 64 ≤ s.e.c) : capsO (fullO x) s := by
  simp only [capsO, fullO, List.length_append, marksC_len, marks8_len, marksS_len, marksL_len, marksF_len, marksE_len]
  exact ⟨h1, h2, h3, h4, h5, h6⟩
def LentPost (x : ObjV) (w : World) (e : Ending) (w' : World) : Prop := ∃ s, e = .returned (.tuple #[.agg (objV x s), .agg (objV (fullO x) s)]) ∧ Owns w' (w.heap.size + 3) (ownO (fullO x) s) ∧ capsO (fullO x) s ∧ Below w.heap.size w w'
theorem lent_close {x : ObjV} {g m : Nat} {F L : Array Value} {w W : World} {AC AD AL AF AT AE : Option Addr} {c1 c2 kL kF c3 kE : Nat} {r0 : Ro} {e : Ending} (h : LS w.heap.size g m F L (r0 :: ownO (fullO x) ⟨⟨AC, c1⟩, ⟨AD, c2⟩, ⟨AL, kL⟩, ⟨AF, kF⟩, ⟨AT, c3⟩, ⟨AE, kE⟩⟩) w W)
    (hc : capsO (fullO x) ⟨⟨AC, c1⟩, ⟨AD, c2⟩, ⟨AL, kL⟩, ⟨AF, kF⟩, ⟨AT, c3⟩, ⟨AE, kE⟩⟩) (he : e = .returned (.tuple #[.agg (objV x ⟨⟨AC, c1⟩, ⟨AD, c2⟩, ⟨AL, kL⟩, ⟨AF, kF⟩, ⟨AT, c3⟩, ⟨AE, kE⟩⟩), .agg (objV (fullO x) ⟨⟨AC, c1⟩, ⟨AD, c2⟩, ⟨AL, kL⟩, ⟨AF, kF⟩, ⟨AT, c3⟩, ⟨AE, kE⟩⟩)])) : LentPost x w e W :=
  ⟨_, he, h.ow.sub (List.sublist_cons_self _ _), hc, h.bl⟩
set_option maxHeartbeats 8000000 in
theorem LentObject_any (x : ObjV) (s : ObjS) (w : World) (hx : ObjOk x) (hf : ObjFit x) (hr : ObjR w w.heap.size x s) : Calls Tryz.prog 5 #[.agg (objV x s)] w fun e w' => LentPost x w e w' := by
  obtain ⟨⟨cA, cc⟩, ⟨dA, dc⟩, ⟨lA, lc⟩, ⟨fA, fc⟩, ⟨tA, tc⟩, ⟨eA, ec⟩⟩ := s
  obtain ⟨m1, m2, m3, m4, m5, m6⟩ := hf
  have HRC := hide_ hr.rc
  have HRD := hide_ hr.rd
  have HRL := hide_ hr.rl
  have HRF := hide_ hr.rf
  have HRT := hide_ hr.rt
  have HRE := hide_ hr.re
  dsimp only [objV] at HRC HRD HRL HRF HRT HRE ⊢
  obtain ⟨n, hn⟩ : ∃ n, n = x.code.length := ⟨_, rfl⟩
  obtain ⟨nd, hnd⟩ : ∃ n, n = x.data.length := ⟨_, rfl⟩
  obtain ⟨nl, hnl⟩ : ∃ n, n = x.labels.length := ⟨_, rfl⟩
  obtain ⟨nf, hnf⟩ : ∃ n, n = x.fixes.length := ⟨_, rfl⟩
  obtain ⟨nt, hnt⟩ : ∃ n, n = x.targets.length := ⟨_, rfl⟩
  obtain ⟨ne, hne⟩ : ∃ n, n = x.entries.length := ⟨_, rfl⟩
  obtain ⟨z, hz⟩ : ∃ z, z = x.zero := ⟨_, rfl⟩
  obtain ⟨sk, hsk⟩ : ∃ z, z = x.stack := ⟨_, rfl⟩
  rw [← hn, ← hnd, ← hnl, ← hnf, ← hnt, ← hne, ← hz, ← hsk]
  rw [← hn] at HRC m1
  rw [← hnd] at HRD m2
  rw [← hnl] at HRL m3
  rw [← hnf] at HRF m4
  rw [← hnt] at HRT m5
  rw [← hne] at HRE m6
  have HLC := hide_ (fun W (hb : Below w.heap.size w W) => LentCode_any cA n cc w.heap.size x.code W (by omega) hn.symm (HRC.out.below hb) hb.size)
  have HLD := hide_ (fun W (hb : Below w.heap.size w W) => LentBytes_any dA nd dc x.data w.heap.size W (HRD.out.below hb) hb.size (by omega))
  have HLT := hide_ (fun W (hb : Below w.heap.size w W) => LentTexts_any tA nt tc w.heap.size x.targets W (by omega) (HRT.out.below hb) hb.size)
  have HN := hide_ hn
  have HND := hide_ hnd
  have HNL := hide_ hnl
  have HNF := hide_ hnf
  have HNT := hide_ hnt
  have HNE := hide_ hne
  have HZ := hide_ hz
  have HSK := hide_ hsk
  clear hr hx hn hnd hnl hnf hnt hne hz hsk
  obtain ⟨W1, hW1⟩ : ∃ W, W = (((w.alloc (.cells #[.slice cA n cc, .slice dA nd dc, .int .u32 z, .int .u32 sk, .slice lA nl lc, .slice fA nf fc, .slice tA nt tc, .slice eA ne ec] 30)).alloc (.cells #[.slice none 0 0, .slice none 0 0, .int .u32 0, .int .u32 0, .slice none 0 0, .slice none 0 0, .slice none 0 0, .slice none 0 0] 30)).alloc (.cells #[.slice none 0 0, .slice none 0 0, .int .u32 0, .int .u32 0, .slice none 0 0, .slice none 0 0, .slice none 0 0, .slice none 0 0] 30)) := ⟨_, rfl⟩
  have f0 : W1.cell? ⟨w.heap.size, 0, none⟩ = some (.slice cA n cc) := by rw [hW1]; go_simp
  have f1 : W1.cell? ⟨w.heap.size, 1, none⟩ = some (.slice dA nd dc) := by rw [hW1]; go_simp
  have f2 : W1.cell? ⟨w.heap.size, 2, none⟩ = some (.int .u32 z) := by rw [hW1]; go_simp
  have f3 : W1.cell? ⟨w.heap.size, 3, none⟩ = some (.int .u32 sk) := by rw [hW1]; go_simp
  have f4 : W1.cell? ⟨w.heap.size, 4, none⟩ = some (.slice lA nl lc) := by rw [hW1]; go_simp
  have f5 : W1.cell? ⟨w.heap.size, 5, none⟩ = some (.slice fA nf fc) := by rw [hW1]; go_simp
  have f6 : W1.cell? ⟨w.heap.size, 6, none⟩ = some (.slice tA nt tc) := by rw [hW1]; go_simp
  have f7 : W1.cell? ⟨w.heap.size, 7, none⟩ = some (.slice eA ne ec) := by rw [hW1]; go_simp
  have HB1 := hide_ (show Below w.heap.size w W1 by rw [hW1]; exact (((Below.refl _ _).alloc (Nat.le_refl _) _).alloc (by simp) _).alloc (by simp; omega) _)
  have HZ1 := hide_ (show W1.heap.size = w.heap.size + 3 by rw [hW1]; simp)
  have HOW := hide_ (And.intro (Owns.nil_ (w := W1) (B := w.heap.size + 3)) (Nat.le_of_eq HZ1.out.symm))
  have HW1 := hide_ hW1
  go_enter Tryz.func5, Tryz.ntmps5
  go_upto_region 1 with (fail)
  rw [← hW1]
  clear hW1
  go_cut [4] from 7 to 20 (fun p wx => ∃ g AC c1 AD c2 AT c3, p = .pointer (some ⟨g, 0, none⟩) ∧ Owns wx (w.heap.size + 3) [⟨30, 1, .slice (some ⟨g, 0, none⟩) 8 8, 8, [.slice AC (n + 64) c1, .slice AD (nd + 64) c2, .int .u32 z, .int .u32 sk, .slice none 0 0, .slice none 0 0, .slice AT (nt + 64) c3, .slice none 0 0]⟩, ⟨52, 2, .slice AC (n + 64) c1, n + 64, (x.code ++ marksC 64).flatMap cE⟩, ⟨5, 1, .slice AD (nd + 64) c2, nd + 64, u8s (x.data ++ marks8 0 0 64)⟩, ⟨9, 1, .slice AT (nt + 64) c3, nt + 64, strV (x.targets ++ marksS 64)⟩] ∧ (n + 64 ≤ c1 ∧ nd + 64 ≤ c2 ∧ nt + 64 ≤ c3) ∧ Below (w.heap.size + 3) W1 wx)
  case first =>
    go_region_held3 (fun W => W.cell? ⟨w.heap.size, 0, none⟩ = some (.slice cA n cc) ∧ W.cell? ⟨w.heap.size, 1, none⟩ = some (.slice dA nd dc) ∧ W.cell? ⟨w.heap.size, 2, none⟩ = some (.int .u32 z) ∧ W.cell? ⟨w.heap.size, 3, none⟩ = some (.int .u32 sk) ∧ W.cell? ⟨w.heap.size, 6, none⟩ = some (.slice tA nt tc) ∧ Below (w.heap.size + 3) W1 W)
      (first | (with_reducible exact lent_start ⟨f0, f1, f2, f3, f6⟩) | (with_reducible exact lent_keep HZ1.out (by assumption) hb7) | (with_reducible exact lent_keep HZ1.out (by assumption) ((Below.refl _ _).alloc (Nat.le_refl _) _)) | (with_reducible exact lent_keepB (by assumption) (below_swap HOW.out.2 _ _)) | (with_reducible exact lent_keepB (by assumption) (below_setRow (Below.refl _ _) HBX.out.2 _)))
      (first
        | (go_at_call 12; refine (HLC.out _ (lent_low HZ1.out HB1.out (by assumption))).mono ?_; rintro e w7 ⟨v7, rfl, ho7, hb7⟩; (first | (with_reducible have HOW := hide_ (lent_push (lent_drew HOW.out) hb7 ho7); try (have HBX := hide_ (box_below HBX.out hb7))) | (with_reducible have HOW := hide_ (lent_push HOW.out hb7 ho7); try (have HBX := hide_ (box_below HBX.out hb7))) | (with_reducible have HBX := hide_ (box_below (box_new (lent_drew HOW.out)) hb7); have HOW := hide_ (lent_push (lent_box (lent_drew HOW.out)) hb7 ho7)) | (with_reducible have HBX := hide_ (box_below (box_drew (box_new HOW.out)) hb7); have HOW := hide_ (lent_push (lent_drew (lent_box HOW.out)) hb7 ho7)) | (with_reducible have HBX := hide_ (box_below (box_new HOW.out) hb7); have HOW := hide_ (lent_push (lent_box HOW.out) hb7 ho7))); obtain ⟨AC, c1, rfl, hc1, hd7⟩ := ownsRow_slice ho7; clear ho7 hd7)
        | (go_at_call 13; refine (HLD.out _ (lent_low HZ1.out HB1.out (by assumption))).mono ?_; rintro e w7 ⟨v7, rfl, ho7, hb7⟩; (first | (with_reducible have HOW := hide_ (lent_push (lent_drew HOW.out) hb7 ho7); try (have HBX := hide_ (box_below HBX.out hb7))) | (with_reducible have HOW := hide_ (lent_push HOW.out hb7 ho7); try (have HBX := hide_ (box_below HBX.out hb7))) | (with_reducible have HBX := hide_ (box_below (box_new (lent_drew HOW.out)) hb7); have HOW := hide_ (lent_push (lent_box (lent_drew HOW.out)) hb7 ho7)) | (with_reducible have HBX := hide_ (box_below (box_drew (box_new HOW.out)) hb7); have HOW := hide_ (lent_push (lent_drew (lent_box HOW.out)) hb7 ho7)) | (with_reducible have HBX := hide_ (box_below (box_new HOW.out) hb7); have HOW := hide_ (lent_push (lent_box HOW.out) hb7 ho7))); obtain ⟨AD, c2, rfl, hc2, hd7⟩ := ownsRow_slice ho7; clear ho7 hd7)
        | (go_at_call 14; refine (HLT.out _ (lent_low HZ1.out HB1.out (by assumption))).mono ?_; rintro e w7 ⟨v7, rfl, ho7, hb7⟩; (first | (with_reducible have HOW := hide_ (lent_push (lent_drew HOW.out) hb7 ho7); try (have HBX := hide_ (box_below HBX.out hb7))) | (with_reducible have HOW := hide_ (lent_push HOW.out hb7 ho7); try (have HBX := hide_ (box_below HBX.out hb7))) | (with_reducible have HBX := hide_ (box_below (box_new (lent_drew HOW.out)) hb7); have HOW := hide_ (lent_push (lent_box (lent_drew HOW.out)) hb7 ho7)) | (with_reducible have HBX := hide_ (box_below (box_drew (box_new HOW.out)) hb7); have HOW := hide_ (lent_push (lent_drew (lent_box HOW.out)) hb7 ho7)) | (with_reducible have HBX := hide_ (box_below (box_new HOW.out) hb7); have HOW := hide_ (lent_push (lent_box HOW.out) hb7 ho7))); obtain ⟨AT, c3, rfl, hc3, hd7⟩ := ownsRow_slice ho7; clear ho7 hd7)
        | (have HST := box_st (cs := #[.slice AC (n + 64) c1, .slice AD (nd + 64) c2, .int .u32 z, .int .u32 sk, .slice none 0 0, .slice none 0 0, .slice AT (nt + 64) c3, .slice none 0 0]) HBX.out rfl (by simp [Value.oneCell']); simp [go_sem] at HST; rw [HST]; go_simp))
    all_goals
      go_wp2
      go_meet
      first
        | exact ⟨_, AC, c1, AD, c2, AT, c3, rfl, Owns.perm (Owns.box8 HOW.out (.slice AC (n + 64) c1) (.slice AD (nd + 64) c2) (.int .u32 z) (.int .u32 sk) (.slice none 0 0) (.slice none 0 0) (.slice AT (nt + 64) c3) (.slice none 0 0)) (fun cnt one k1 k2 k3 => by simp only [k1, k2, k3, List.nil_append, List.cons_append, List.set] <;> omega), ⟨hc1, hc2, hc3⟩, lent_fin (by assumption)⟩
        | exact ⟨_, AC, c1, AD, c2, AT, c3, rfl, Owns.perm (Owns.re8 (e := 30) HOW.out.1 (i := 1) rfl (.slice AC (n + 64) c1) (.slice AD (nd + 64) c2) (.int .u32 z) (.int .u32 sk) (.slice none 0 0) (.slice none 0 0) (.slice AT (nt + 64) c3) (.slice none 0 0)) (fun cnt one k1 k2 k3 => by simp only [k1, k2, k3, List.nil_append, List.cons_append, List.set] <;> omega), ⟨hc1, hc2, hc3⟩, lent_fin (by assumption)⟩
        | exact ⟨_, AC, c1, AD, c2, AT, c3, rfl, Owns.perm (Owns.re8 (e := 30) HOW.out.1 (i := 2) rfl (.slice AC (n + 64) c1) (.slice AD (nd + 64) c2) (.int .u32 z) (.int .u32 sk) (.slice none 0 0) (.slice none 0 0) (.slice AT (nt + 64) c3) (.slice none 0 0)) (fun cnt one k1 k2 k3 => by simp only [k1, k2, k3, List.nil_append, List.cons_append, List.set] <;> omega), ⟨hc1, hc2, hc3⟩, lent_fin (by assumption)⟩
        | exact ⟨_, AC, c1, AD, c2, AT, c3, rfl, Owns.perm (Owns.re8 (e := 30) HOW.out.1 (i := 0) rfl (.slice AC (n + 64) c1) (.slice AD (nd + 64) c2) (.int .u32 z) (.int .u32 sk) (.slice none 0 0) (.slice none 0 0) (.slice AT (nt + 64) c3) (.slice none 0 0)) (fun cnt one k1 k2 k3 => by simp only [k1, k2, k3, List.nil_append, List.cons_append, List.set] <;> omega), ⟨hc1, hc2, hc3⟩, lent_fin (by assumption)⟩
  case rest =>
    obtain ⟨g, AC, c1, AD, c2, AT, c3, rfl, hO, ⟨hc1, hc2, hc3⟩, hb⟩ := hcut
    obtain ⟨XC, hXC⟩ : ∃ X, X = (x.code ++ marksC 64).flatMap cE := ⟨_, rfl⟩
    obtain ⟨XD, hXD⟩ : ∃ X, X = u8s (x.data ++ marks8 0 0 64) := ⟨_, rfl⟩
    obtain ⟨XT, hXT⟩ : ∃ X, X = strV (x.targets ++ marksS 64) := ⟨_, rfl⟩
    obtain ⟨XL, hXL⟩ : ∃ X, X = x.labels.flatMap lE := ⟨_, rfl⟩
    obtain ⟨XF, hXF⟩ : ∃ X, X = x.fixes.flatMap fE := ⟨_, rfl⟩
    obtain ⟨XE, hXE⟩ : ∃ X, X = x.entries.flatMap eE := ⟨_, rfl⟩
    rw [← hXC, ← hXD, ← hXT] at hO
    rw [← hXL] at HRL
    rw [← hXF] at HRF
    rw [← hXE] at HRE
    have HXC := hide_ hXC
    have HXD := hide_ hXD
    have HXT := hide_ hXT
    have HXL := hide_ hXL
    have HXF := hide_ hXF
    have HXE := hide_ hXE
    have one_L : Hid (∀ u ∈ XL, u.oneCell' = true) := hide_ (by rw [hXL]; exact one_lE _)
    have one_F : Hid (∀ u ∈ XF, u.oneCell' = true) := hide_ (by rw [hXF]; exact one_fE _)
    have one_E : Hid (∀ u ∈ XE, u.oneCell' = true) := hide_ (by rw [hXE]; exact one_eE _)
    clear hXC hXD hXT hXL hXF hXE
    obtain ⟨i1, hi1, hz11, hz12, hz13⟩ := info_parts lab_info
    obtain ⟨i2, hi2, hz21, hz22, hz23⟩ := info_parts fix_info
    obtain ⟨i3, hi3, hz31, hz32, hz33⟩ := info_parts ent_info
    have hbz := hb.size
    have hzz := HZ1.out
    have hgb := (hO.base (i := 0) rfl).1
    have HO := hide_ (((hO.nilrow 45 4).nilrow 47 4).nilrow 49 2)
    have HB := hide_ hb
    have g4 := hO.cell (i := 0) (j := 4) rfl rfl
    have gf := fun j => hO.frozen (i := 0) rfl j
    have o4 := (hb.cell (p := ⟨w.heap.size, 4, none⟩) (by simp)).trans f4
    have F4 := hide_ f4
    have F5 := hide_ f5
    have F7 := hide_ f7
    have F0 := hide_ f0
    have F1 := hide_ f1
    have F6 := hide_ f6
    clear hO hb f0 f1 f2 f3 f4 f5 f6 f7
    go_wp2_with (at_builtin; refine wpList_append_owns _ rfl (.tmp 22) (.tmp 24) 25 rfl (w.heap.size + 3) _ 4 45 4 (.slice none 0 0) 0 [] rfl HO.out (by omega) i1 _ 32 Tryz.underlying25 hi1 hz11 hz12 hz13 rfl (by omega) rfl w.heap.size lA nl lc XL rfl (HRL.out.below (HB1.out.trans (HB.out.mono (by omega)))) one_L.out (by simp only [maxLen]; omega) (by omega) ?_)
    intro v1 w1L hO1 hb1 hsz1
    have hL := hO1.at_ (i := 4) rfl
    dsimp only at hL
    obtain ⟨AL, kL, rfl, hkL, _⟩ := ownsRow_slice hL
    obtain ⟨w2L, hw2⟩ : ∃ W, W = w1L.setCell ⟨g, 4, none⟩ (.slice AL nl kL) := ⟨_, rfl⟩
    have hO2 : Owns w2L (w.heap.size + 3) [⟨30, 1, .slice (some ⟨g, 0, none⟩) 8 8, 8, [.slice AC (n + 64) c1, .slice AD (nd + 64) c2, .int .u32 z, .int .u32 sk, .slice AL nl kL, .slice none 0 0, .slice AT (nt + 64) c3, .slice none 0 0]⟩, ⟨52, 2, .slice AC (n + 64) c1, n + 64, XC⟩, ⟨5, 1, .slice AD (nd + 64) c2, nd + 64, XD⟩, ⟨9, 1, .slice AT (nt + 64) c3, nt + 64, XT⟩, ⟨45, 4, .slice AL nl kL, nl, XL⟩, ⟨47, 4, .slice none 0 0, 0, []⟩, ⟨49, 2, .slice none 0 0, 0, []⟩] := by rw [hw2]; exact hO1.store (i := 0) (j := 4) rfl (by simp) _
    have h4 := hO1.cell (i := 0) (j := 4) rfl rfl
    have hf := fun j => hO1.frozen (i := 0) rfl j
    have hb2 : Below (w.heap.size + 3) W1 w2L := by rw [hw2]; exact (HB.out.trans hb1).setCell (p := ⟨g, 4, none⟩) hgb _
    have hs2 : wc.heap.size ≤ w2L.heap.size := by rw [hw2]; simpa using hsz1
    replace HO := hide_ hO2
    replace HB := hide_ hb2
    clear hL hO1 hb1 g4 gf o4
    go_upto_region 3 with (fail)
    rw [← hw2]
    clear hw2 h4 hf
    have g4 := hO2.cell (i := 0) (j := 5) rfl rfl
    have gf := fun j => hO2.frozen (i := 0) rfl j
    have o4 := (hb2.cell (p := ⟨w.heap.size, 5, none⟩) (by simp)).trans F5.out
    clear hO2 hb2
    go_wp2_with (at_builtin; refine wpList_append_owns _ rfl (.tmp 28) (.tmp 30) 26 rfl (w.heap.size + 3) _ 5 47 4 (.slice none 0 0) 0 [] rfl HO.out (by omega) i2 _ 32 Tryz.underlying26 hi2 hz21 hz22 hz23 rfl (by omega) rfl w.heap.size fA nf fc XF rfl (HRF.out.below (HB1.out.trans (HB.out.mono (by omega)))) one_F.out (by simp only [maxLen]; omega) (by omega) ?_)
    intro v1 w1F hO1 hb1 hsz1
    have hL := hO1.at_ (i := 5) rfl
    dsimp only at hL
    obtain ⟨AF, kF, rfl, hkF, _⟩ := ownsRow_slice hL
    obtain ⟨w2F, hw2⟩ : ∃ W, W = w1F.setCell ⟨g, 5, none⟩ (.slice AF nf kF) := ⟨_, rfl⟩
    have hO2 : Owns w2F (w.heap.size + 3) [⟨30, 1, .slice (some ⟨g, 0, none⟩) 8 8, 8, [.slice AC (n + 64) c1, .slice AD (nd + 64) c2, .int .u32 z, .int .u32 sk, .slice AL nl kL, .slice AF nf kF, .slice AT (nt + 64) c3, .slice none 0 0]⟩, ⟨52, 2, .slice AC (n + 64) c1, n + 64, XC⟩, ⟨5, 1, .slice AD (nd + 64) c2, nd + 64, XD⟩, ⟨9, 1, .slice AT (nt + 64) c3, nt + 64, XT⟩, ⟨45, 4, .slice AL nl kL, nl, XL⟩, ⟨47, 4, .slice AF nf kF, nf, XF⟩, ⟨49, 2, .slice none 0 0, 0, []⟩] := by rw [hw2]; exact hO1.store (i := 0) (j := 5) rfl (by simp) _
    have h4 := hO1.cell (i := 0) (j := 5) rfl rfl
    have hf := fun j => hO1.frozen (i := 0) rfl j
    have hb2 : Below (w.heap.size + 3) W1 w2F := by rw [hw2]; exact (HB.out.trans hb1).setCell (p := ⟨g, 5, none⟩) hgb _
    have hs2 : w2L.heap.size ≤ w2F.heap.size := by rw [hw2]; simpa using hsz1
    replace HO := hide_ hO2
    replace HB := hide_ hb2
    clear hL hO1 hb1 g4 gf o4
    go_upto_region 4 with (fail)
    rw [← hw2]
    clear hw2 h4 hf
    have g4 := hO2.cell (i := 0) (j := 7) rfl rfl
    have gf := fun j => hO2.frozen (i := 0) rfl j
    have o4 := (hb2.cell (p := ⟨w.heap.size, 7, none⟩) (by simp)).trans F7.out
    clear hO2 hb2
    go_wp2_with (at_builtin; refine wpList_append_owns _ rfl (.tmp 34) (.tmp 36) 28 rfl (w.heap.size + 3) _ 6 49 2 (.slice none 0 0) 0 [] rfl HO.out (by omega) i3 _ 32 Tryz.underlying28 hi3 hz31 hz32 hz33 rfl (by omega) rfl w.heap.size eA ne ec XE rfl (HRE.out.below (HB1.out.trans (HB.out.mono (by omega)))) one_E.out (by simp only [maxLen]; omega) (by omega) ?_)
    intro v1 w1E hO1 hb1 hsz1
    have hL := hO1.at_ (i := 6) rfl
    dsimp only at hL
    obtain ⟨AE, kE, rfl, hkE, _⟩ := ownsRow_slice hL
    obtain ⟨w2E, hw2⟩ : ∃ W, W = w1E.setCell ⟨g, 7, none⟩ (.slice AE ne kE) := ⟨_, rfl⟩
    have hO2 : Owns w2E (w.heap.size + 3) [⟨30, 1, .slice (some ⟨g, 0, none⟩) 8 8, 8, [.slice AC (n + 64) c1, .slice AD (nd + 64) c2, .int .u32 z, .int .u32 sk, .slice AL nl kL, .slice AF nf kF, .slice AT (nt + 64) c3, .slice AE ne kE]⟩, ⟨52, 2, .slice AC (n + 64) c1, n + 64, XC⟩, ⟨5, 1, .slice AD (nd + 64) c2, nd + 64, XD⟩, ⟨9, 1, .slice AT (nt + 64) c3, nt + 64, XT⟩, ⟨45, 4, .slice AL nl kL, nl, XL⟩, ⟨47, 4, .slice AF nf kF, nf, XF⟩, ⟨49, 2, .slice AE ne kE, ne, XE⟩] := by rw [hw2]; exact hO1.store (i := 0) (j := 7) rfl (by simp) _
    have h4 := hO1.cell (i := 0) (j := 7) rfl rfl
    have hf := fun j => hO1.frozen (i := 0) rfl j
    have hb2 : Below (w.heap.size + 3) W1 w2E := by rw [hw2]; exact (HB.out.trans hb1).setCell (p := ⟨g, 7, none⟩) hgb _
    have hs2 : w2F.heap.size ≤ w2E.heap.size := by rw [hw2]; simpa using hsz1
    replace HO := hide_ hO2
    replace HB := hide_ hb2
    clear hL hO1 hb1 g4 gf o4
    go_upto_region 5 with (fail)
    rw [← hw2]
    clear hw2 h4 hf
    clear hO2 hb2
    have HO0 : Hid (Owns w2E (w.heap.size + 3) [⟨30, 1, .slice (some ⟨g, 0, none⟩) 8 8, 8, [.slice AC (n + 64) c1, .slice AD (nd + 64) c2, .int .u32 z, .int .u32 sk, .slice AL (nl + 0) kL, .slice AF (nf + 0) kF, .slice AT (nt + 64) c3, .slice AE (ne + 0) kE]⟩, ⟨52, 2, .slice AC (n + 64) c1, n + 64, XC⟩, ⟨5, 1, .slice AD (nd + 64) c2, nd + 64, XD⟩, ⟨9, 1, .slice AT (nt + 64) c3, nt + 64, XT⟩, ⟨45, 4, .slice AL (nl + 0) kL, nl + 0, XL ++ (marksL 0).flatMap lE⟩, ⟨47, 4, .slice AF (nf + 0) kF, nf + 0, XF ++ (marksF 0).flatMap fE⟩, ⟨49, 2, .slice AE (ne + 0) kE, ne + 0, XE ++ (marksE 0).flatMap eE⟩]) := hide_ (by
      have h9 := HO.out
      rw [show marksL 0 = [] from rfl, show marksF 0 = [] from rfl, show marksE 0 = [] from rfl]
      simpa only [List.flatMap_nil, List.append_nil, Nat.add_zero] using h9)
    have HB0 := hide_ HB.out
    have HK0 := hide_ (And.intro hkL (And.intro hkF hkE))
    go_wp2
    go_loopw [5] (fun i wr => ∃ (j : Nat) (AL : Option Addr) (kL : Nat) (AF : Option Addr) (kF : Nat) (AE : Option Addr) (kE : Nat), j ≤ 64 ∧ i = .int .i64 j ∧ Owns wr (w.heap.size + 3) [⟨30, 1, .slice (some ⟨g, 0, none⟩) 8 8, 8, [.slice AC (n + 64) c1, .slice AD (nd + 64) c2, .int .u32 z, .int .u32 sk, .slice AL (nl + j) kL, .slice AF (nf + j) kF, .slice AT (nt + 64) c3, .slice AE (ne + j) kE]⟩, ⟨52, 2, .slice AC (n + 64) c1, n + 64, XC⟩, ⟨5, 1, .slice AD (nd + 64) c2, nd + 64, XD⟩, ⟨9, 1, .slice AT (nt + 64) c3, nt + 64, XT⟩, ⟨45, 4, .slice AL (nl + j) kL, nl + j, XL ++ (marksL j).flatMap lE⟩, ⟨47, 4, .slice AF (nf + j) kF, nf + j, XF ++ (marksF j).flatMap fE⟩, ⟨49, 2, .slice AE (ne + j) kE, ne + j, XE ++ (marksE j).flatMap eE⟩] ∧ (nl + j ≤ kL ∧ nf + j ≤ kF ∧ ne + j ≤ kE) ∧ Below (w.heap.size + 3) W1 wr) (fun i _ => 64 - (intOf i).toNat)
    case atStart => exact ⟨0, AL, kL, AF, kF, AE, kE, by omega, rfl, HO0.out, HK0.out, HB0.out⟩
    case round =>
      clear HO HB HO0 HB0 HK0 hkL hkF hkE one_L one_F one_E
      obtain ⟨j, AL, kL, AF, kF, AE, kE, hj, rfl, hO, ⟨hkL, hkF, hkE⟩, hb⟩ := hrel
      have HOO := hide_ hO
      have HB := hide_ hb
      have hbs := hb.size
      clear hO hb
      by_cases hlt : j < 64
      · have wr1 : IntKind.u32.wrap (j : Int) = (j : Int) := IntWalk.u32_in _ (by omega)
        have wr2 : IntKind.u8.wrap (j : Int) = (j : Int) := IntWalk.u8_in _ (by omega)
        obtain ⟨ML, hML⟩ : ∃ M, M = (marksL j).flatMap lE := ⟨_, rfl⟩
        obtain ⟨MF, hMF⟩ : ∃ M, M = (marksF j).flatMap fE := ⟨_, rfl⟩
        obtain ⟨ME, hME⟩ : ∃ M, M = (marksE j).flatMap eE := ⟨_, rfl⟩
        rw [← hML, ← hMF, ← hME] at HOO
        have HSL := hide_ (show (marksL (j + 1)).flatMap lE = ML ++ [.string ⟨#[109, 97, 114, 107]⟩, .int .u8 0, .int .u32 j, .bool false] by rw [marksL_succ, enc_snoc, ← hML]; rfl)
        have HSF := hide_ (show (marksF (j + 1)).flatMap fE = MF ++ [.int .u8 0, .int .u32 j, .string ⟨#[109, 97, 114, 107]⟩, .int .u32 0] by rw [marksF_succ, enc_snoc, ← hMF]; rfl)
        obtain ⟨SJ, hSJ⟩ : ∃ S, S = textOf [j] := ⟨_, rfl⟩
        have HSE := hide_ (show (marksE (j + 1)).flatMap eE = ME ++ [.string ⟨#[109, 97, 114, 107]⟩, .string SJ] by rw [marksE_succ, enc_snoc, ← hME, hSJ]; rfl)
        have HCV := hide_ (fun W : World => show (convert 23 9 (.slice (some ⟨W.heap.size, 0, none⟩) 1 1)).run Tryz.prog (W.alloc (.cells #[.int .u8 (j : Int)] 5)) = .ok (.string SJ) (W.alloc (.cells #[.int .u8 (j : Int)] 5)) from by rw [hSJ]; exact conv_new W [j] 1)
        clear hSJ
        clear hML hMF hME
        have hO := HOO.out
        have HO := hide_ hO
        have g4 := hO.cell (i := 0) (j := 4) rfl rfl
        have gf := fun j => hO.frozen (i := 0) rfl j
        clear hO HOO
        go_wp2_with (at_builtin; refine wpList_append_owns _ rfl (.tmp 44) (.tmp 48) 25 rfl (w.heap.size + 3) _ 4 45 4 (.slice AL (nl + j) kL) (nl + j) (XL ++ ML) rfl (HO.out.alloc _) (by simp; omega) i1 _ 32 Tryz.underlying25 hi1 hz11 hz12 hz13 rfl (by omega) rfl _ _ 1 1 [.string ⟨#[109, 97, 114, 107]⟩, .int .u8 0, .int .u32 j, .bool false] rfl (reads_new wr 45 4 1 [.string ⟨#[109, 97, 114, 107]⟩, .int .u8 0, .int .u32 j, .bool false] rfl) (by simp [Value.oneCell']) (by simp only [maxLen]; omega) (by omega) ?_)
        intro v1 w1L hO1 hb1 hsz1
        have hL := hO1.at_ (i := 4) rfl
        dsimp only at hL
        obtain ⟨BL, qL, rfl, hqL, _⟩ := ownsRow_slice hL
        obtain ⟨w2L, hw2⟩ : ∃ W, W = w1L.setCell ⟨g, 4, none⟩ (.slice BL (nl + j + 1) qL) := ⟨_, rfl⟩
        have hO2 : Owns w2L (w.heap.size + 3) [⟨30, 1, .slice (some ⟨g, 0, none⟩) 8 8, 8, [.slice AC (n + 64) c1, .slice AD (nd + 64) c2, .int .u32 z, .int .u32 sk, .slice BL (nl + j + 1) qL, .slice AF (nf + j) kF, .slice AT (nt + 64) c3, .slice AE (ne + j) kE]⟩, ⟨52, 2, .slice AC (n + 64) c1, n + 64, XC⟩, ⟨5, 1, .slice AD (nd + 64) c2, nd + 64, XD⟩, ⟨9, 1, .slice AT (nt + 64) c3, nt + 64, XT⟩, ⟨45, 4, .slice BL (nl + j + 1) qL, nl + j + 1, XL ++ (ML ++ [.string ⟨#[109, 97, 114, 107]⟩, .int .u8 0, .int .u32 j, .bool false])⟩, ⟨47, 4, .slice AF (nf + j) kF, nf + j, XF ++ MF⟩, ⟨49, 2, .slice AE (ne + j) kE, ne + j, XE ++ ME⟩] := by rw [hw2]; exact hO1.store (i := 0) (j := 4) rfl (by simp) _
        have h4 := hO1.cell (i := 0) (j := 4) rfl rfl
        have hf := fun j => hO1.frozen (i := 0) rfl j
        have hb2 : Below (w.heap.size + 3) W1 w2L := by rw [hw2]; exact ((HB.out.alloc (by omega) _).trans hb1).setCell (p := ⟨g, 4, none⟩) hgb _
        have hs2 : wr.heap.size ≤ w2L.heap.size := by rw [hw2]; simp at hsz1 ⊢; omega
        replace HO := hide_ hO2
        replace HB := hide_ hb2
        clear hL hO1 hb1 g4 gf
        go_upto_region 9 with (fail)
        rw [← hw2]
        clear hw2 h4 hf hsz1
        have g4 := hO2.cell (i := 0) (j := 5) rfl rfl
        have gf := fun j => hO2.frozen (i := 0) rfl j
        clear hO2 hb2
        go_wp2_with (at_builtin; refine wpList_append_owns _ rfl (.tmp 52) (.tmp 56) 26 rfl (w.heap.size + 3) _ 5 47 4 (.slice AF (nf + j) kF) (nf + j) (XF ++ MF) rfl (HO.out.alloc _) (by simp; omega) i2 _ 32 Tryz.underlying26 hi2 hz21 hz22 hz23 rfl (by omega) rfl _ _ 1 1 [.int .u8 0, .int .u32 j, .string ⟨#[109, 97, 114, 107]⟩, .int .u32 0] rfl (reads_new w2L 47 4 1 [.int .u8 0, .int .u32 j, .string ⟨#[109, 97, 114, 107]⟩, .int .u32 0] rfl) (by simp [Value.oneCell']) (by simp only [maxLen]; omega) (by omega) ?_)
        intro v1 w1F hO1 hb1 hsz1
        have hL := hO1.at_ (i := 5) rfl
        dsimp only at hL
        obtain ⟨BF, qF, rfl, hqF, _⟩ := ownsRow_slice hL
        obtain ⟨w2F, hw2⟩ : ∃ W, W = w1F.setCell ⟨g, 5, none⟩ (.slice BF (nf + j + 1) qF) := ⟨_, rfl⟩
        have hO2 : Owns w2F (w.heap.size + 3) [⟨30, 1, .slice (some ⟨g, 0, none⟩) 8 8, 8, [.slice AC (n + 64) c1, .slice AD (nd + 64) c2, .int .u32 z, .int .u32 sk, .slice BL (nl + j + 1) qL, .slice BF (nf + j + 1) qF, .slice AT (nt + 64) c3, .slice AE (ne + j) kE]⟩, ⟨52, 2, .slice AC (n + 64) c1, n + 64, XC⟩, ⟨5, 1, .slice AD (nd + 64) c2, nd + 64, XD⟩, ⟨9, 1, .slice AT (nt + 64) c3, nt + 64, XT⟩, ⟨45, 4, .slice BL (nl + j + 1) qL, nl + j + 1, XL ++ (ML ++ [.string ⟨#[109, 97, 114, 107]⟩, .int .u8 0, .int .u32 j, .bool false])⟩, ⟨47, 4, .slice BF (nf + j + 1) qF, nf + j + 1, XF ++ (MF ++ [.int .u8 0, .int .u32 j, .string ⟨#[109, 97, 114, 107]⟩, .int .u32 0])⟩, ⟨49, 2, .slice AE (ne + j) kE, ne + j, XE ++ ME⟩] := by rw [hw2]; exact hO1.store (i := 0) (j := 5) rfl (by simp) _
        have h4 := hO1.cell (i := 0) (j := 5) rfl rfl
        have hf := fun j => hO1.frozen (i := 0) rfl j
        have hb2 : Below (w.heap.size + 3) W1 w2F := by rw [hw2]; exact ((HB.out.alloc (by omega) _).trans hb1).setCell (p := ⟨g, 5, none⟩) hgb _
        have hs2 : w2L.heap.size ≤ w2F.heap.size := by rw [hw2]; simp at hsz1 ⊢; omega
        replace HO := hide_ hO2
        replace HB := hide_ hb2
        clear hL hO1 hb1 g4 gf
        go_upto_region 10 with (fail)
        rw [← hw2]
        clear hw2 h4 hf hsz1
        have g4 := hO2.cell (i := 0) (j := 7) rfl rfl
        have gf := fun j => hO2.frozen (i := 0) rfl j
        clear hO2 hb2
        have hcv := HCV.out w2F
        have HRN := hide_ (show Reads ((w2F.alloc (.cells #[.int .u8 (j : Int)] 5)).alloc (.cells #[.string ⟨#[109, 97, 114, 107]⟩, .string SJ] 49)) (w2F.heap.size + 1 + 1) 2 (some ⟨w2F.heap.size + 1, 0, none⟩) 1 [.string ⟨#[109, 97, 114, 107]⟩, .string SJ] from by
          have h := reads_new (w2F.alloc (.cells #[.int .u8 (j : Int)] 5)) 49 2 1 [.string ⟨#[109, 97, 114, 107]⟩, .string SJ] rfl
          rw [show (w2F.alloc (.cells #[.int .u8 (j : Int)] 5)).heap.size = w2F.heap.size + 1 from by simp] at h
          exact h)
        go_wp2_with (at_builtin; refine wpList_append_owns _ rfl (.tmp 60) (.tmp 66) 28 rfl (w.heap.size + 3) _ 6 49 2 (.slice AE (ne + j) kE) (ne + j) (XE ++ ME) rfl ((HO.out.alloc _).alloc _) (by simp; omega) i3 _ 32 Tryz.underlying28 hi3 hz31 hz32 hz33 rfl (by omega) rfl (w2F.heap.size + 1 + 1) (some ⟨w2F.heap.size + 1, 0, none⟩) 1 1 [.string ⟨#[109, 97, 114, 107]⟩, .string SJ] rfl HRN.out (by simp [Value.oneCell']) (by simp only [maxLen]; omega) (by omega) ?_)
        intro v1 w1E hO1 hb1 hsz1
        have hL := hO1.at_ (i := 6) rfl
        dsimp only at hL
        obtain ⟨BE, qE, rfl, hqE, _⟩ := ownsRow_slice hL
        obtain ⟨w2E', hw2⟩ : ∃ W, W = w1E.setCell ⟨g, 7, none⟩ (.slice BE (ne + j + 1) qE) := ⟨_, rfl⟩
        have hO2 : Owns w2E' (w.heap.size + 3) [⟨30, 1, .slice (some ⟨g, 0, none⟩) 8 8, 8, [.slice AC (n + 64) c1, .slice AD (nd + 64) c2, .int .u32 z, .int .u32 sk, .slice BL (nl + j + 1) qL, .slice BF (nf + j + 1) qF, .slice AT (nt + 64) c3, .slice BE (ne + j + 1) qE]⟩, ⟨52, 2, .slice AC (n + 64) c1, n + 64, XC⟩, ⟨5, 1, .slice AD (nd + 64) c2, nd + 64, XD⟩, ⟨9, 1, .slice AT (nt + 64) c3, nt + 64, XT⟩, ⟨45, 4, .slice BL (nl + j + 1) qL, nl + j + 1, XL ++ (ML ++ [.string ⟨#[109, 97, 114, 107]⟩, .int .u8 0, .int .u32 j, .bool false])⟩, ⟨47, 4, .slice BF (nf + j + 1) qF, nf + j + 1, XF ++ (MF ++ [.int .u8 0, .int .u32 j, .string ⟨#[109, 97, 114, 107]⟩, .int .u32 0])⟩, ⟨49, 2, .slice BE (ne + j + 1) qE, ne + j + 1, XE ++ (ME ++ [.string ⟨#[109, 97, 114, 107]⟩, .string SJ])⟩] := by rw [hw2]; exact hO1.store (i := 0) (j := 7) rfl (by simp) _
        have h4 := hO1.cell (i := 0) (j := 7) rfl rfl
        have hf := fun j => hO1.frozen (i := 0) rfl j
        have hb2 : Below (w.heap.size + 3) W1 w2E' := by rw [hw2]; exact (((HB.out.alloc (by omega) _).alloc (by simp; omega) _).trans hb1).setCell (p := ⟨g, 7, none⟩) hgb _
        replace HO := hide_ hO2
        replace HB := hide_ hb2
        have HW2 := hide_ hw2
        clear hL hO1 hb1 g4 gf hO2 hb2 hw2 hcv
        go_wp2
        rw [← HW2.out]
        go_roundw
        case rel => exact ⟨j + 1, BL, qL, BF, qF, BE, qE, by omega, by go_num, by rw [HSL.out, HSF.out, HSE.out]; exact HO.out, ⟨hqL, hqF, hqE⟩, HB.out⟩
        case measure => simp [intOf]; omega
      · obtain rfl : j = 64 := by omega
        have hO := HOO.out
        have hb := HB.out
        have g0 := hO.cell (i := 0) (j := 0) rfl rfl
        have g1 := hO.cell (i := 0) (j := 1) rfl rfl
        have g2 := hO.cell (i := 0) (j := 2) rfl rfl
        have g3 := hO.cell (i := 0) (j := 3) rfl rfl
        have g4 := hO.cell (i := 0) (j := 4) rfl rfl
        have g5 := hO.cell (i := 0) (j := 5) rfl rfl
        have g6 := hO.cell (i := 0) (j := 6) rfl rfl
        have g7 := hO.cell (i := 0) (j := 7) rfl rfl
        have gf := fun j => hO.frozen (i := 0) rfl j
        have o0 := (hb.cell (p := ⟨w.heap.size, 0, none⟩) (by simp)).trans F0.out
        have o1 := (hb.cell (p := ⟨w.heap.size, 1, none⟩) (by simp)).trans F1.out
        have o4 := (hb.cell (p := ⟨w.heap.size, 4, none⟩) (by simp)).trans F4.out
        have o5 := (hb.cell (p := ⟨w.heap.size, 5, none⟩) (by simp)).trans F5.out
        have o6 := (hb.cell (p := ⟨w.heap.size, 6, none⟩) (by simp)).trans F6.out
        have o7 := (hb.cell (p := ⟨w.heap.size, 7, none⟩) (by simp)).trans F7.out
        have glt : g < wr.heap.size := (hO.base (i := 0) rfl).2
        have wlt : w.heap.size < wr.heap.size := by omega
        have r0 : n ≤ c1 := by omega
        have r1 : nd ≤ c2 := by omega
        have r2 : nl ≤ kL := by omega
        have r3 : nf ≤ kF := by omega
        have r4 : nt ≤ c3 := by omega
        have r5 : ne ≤ kE := by omega
        clear hO hb
        have HKK := hide_ (And.intro hkL (And.intro hkF hkE))
        have hx1 : Box8 W1 (w.heap.size + 1) := by rw [HW1.out]; exact Box8.alloc ⟨_, by simpa using Blk.new (w.alloc (.cells #[.slice cA n cc, .slice dA nd dc, .int .u32 z, .int .u32 sk, .slice lA nl lc, .slice fA nf fc, .slice tA nt tc, .slice eA ne ec] 30)) 30 #[.slice none 0 0, .slice none 0 0, .int .u32 0, .int .u32 0, .slice none 0 0, .slice none 0 0, .slice none 0 0, .slice none 0 0], rfl⟩ _
        have hx2 : Box8 W1 (w.heap.size + 2) := by rw [HW1.out]; exact ⟨_, by simpa using Blk.new ((w.alloc (.cells #[.slice cA n cc, .slice dA nd dc, .int .u32 z, .int .u32 sk, .slice lA nl lc, .slice fA nf fc, .slice tA nt tc, .slice eA ne ec] 30)).alloc (.cells #[.slice none 0 0, .slice none 0 0, .int .u32 0, .int .u32 0, .slice none 0 0, .slice none 0 0, .slice none 0 0, .slice none 0 0] 30)) 30 #[.slice none 0 0, .slice none 0 0, .int .u32 0, .int .u32 0, .slice none 0 0, .slice none 0 0, .slice none 0 0, .slice none 0 0], rfl⟩
        have HX1 := hide_ (hx1.below HB.out (by omega))
        have HX2 := hide_ (hx2.below HB.out (by omega))
        clear hx1 hx2
        have HBG := hide_ (own_blk (HOO.out.at_ (i := 0) rfl))
        go_upto_region 18 with (fail)
        clear g0 g1 g2 g3 g4 g5 g6 g7 gf o0 o1 o4 o5 o6 o7 r0 r1 r2 r3 r4 r5
        obtain ⟨W6, hW6⟩ : ∃ W, W = wr.alloc (.cells #[.slice AC n c1, .slice AD nd c2, .int .u32 z, .int .u32 sk, .slice AL nl kL, .slice AF nf kF, .slice AT nt c3, .slice AE ne kE] 30) := ⟨_, rfl⟩
        have HLS := hide_ (show LS w.heap.size g wr.heap.size #[.slice AC (n + 64) c1, .slice AD (nd + 64) c2, .int .u32 z, .int .u32 sk, .slice AL (nl + 64) kL, .slice AF (nf + 64) kF, .slice AT (nt + 64) c3, .slice AE (ne + 64) kE] #[.slice AC n c1, .slice AD nd c2, .int .u32 z, .int .u32 sk, .slice AL nl kL, .slice AF nf kF, .slice AT nt c3, .slice AE ne kE] (⟨30, 1, .slice (some ⟨g, 0, none⟩) 8 8, 8, [.slice AC (n + 64) c1, .slice AD (nd + 64) c2, .int .u32 z, .int .u32 sk, .slice AL (nl + 64) kL, .slice AF (nf + 64) kF, .slice AT (nt + 64) c3, .slice AE (ne + 64) kE]⟩ :: ownO (fullO x) ⟨⟨AC, c1⟩, ⟨AD, c2⟩, ⟨AL, kL⟩, ⟨AF, kF⟩, ⟨AT, c3⟩, ⟨AE, kE⟩⟩) w W6.drew by
          have hbs := HB.out.size
          rw [hW6, ownO_full, ← HN.out, ← HND.out, ← HNL.out, ← HNF.out, ← HNT.out, ← HNE.out, ← HXC.out, ← HXD.out, ← HXT.out, ← HXL.out, ← HXF.out, ← HXE.out]
          exact LS.drew ⟨Blk.alloc HBG.out _, Blk.new _ _ _, Box8.alloc HX1.out _, Box8.alloc HX2.out _, HOO.out.alloc _, ((HB1.out.trans (HB.out.mono (by omega))).alloc (by omega) _), hgb, by omega⟩)
        obtain ⟨RR, hRR⟩ : ∃ R, R = (⟨30, 1, .slice (some ⟨g, 0, none⟩) 8 8, 8, [.slice AC (n + 64) c1, .slice AD (nd + 64) c2, .int .u32 z, .int .u32 sk, .slice AL (nl + 64) kL, .slice AF (nf + 64) kF, .slice AT (nt + 64) c3, .slice AE (ne + 64) kE]⟩ : Ro) :: ownO (fullO x) ⟨⟨AC, c1⟩, ⟨AD, c2⟩, ⟨AL, kL⟩, ⟨AF, kF⟩, ⟨AT, c3⟩, ⟨AE, kE⟩⟩ := ⟨_, rfl⟩
        rw [← hRR] at HLS
        rw [← hW6]
        have HRR := hide_ hRR
        clear hW6 hRR HOO HB
        obtain ⟨m, hm⟩ : ∃ m, m = wr.heap.size := ⟨_, rfl⟩
        rw [← hm] at HLS
        rw [← hm]
        clear hm
        go_region_held3 (fun W => W.cell? ⟨g, 0, none⟩ = some (.slice AC (n + 64) c1) ∧ W.cell? ⟨g, 1, none⟩ = some (.slice AD (nd + 64) c2) ∧ W.cell? ⟨g, 2, none⟩ = some (.int .u32 z) ∧ W.cell? ⟨g, 3, none⟩ = some (.int .u32 sk) ∧ W.cell? ⟨g, 4, none⟩ = some (.slice AL (nl + 64) kL) ∧ W.cell? ⟨g, 5, none⟩ = some (.slice AF (nf + 64) kF) ∧ W.cell? ⟨g, 6, none⟩ = some (.slice AT (nt + 64) c3) ∧ W.cell? ⟨g, 7, none⟩ = some (.slice AE (ne + 64) kE) ∧ W.cell? ⟨m, 0, none⟩ = some (.slice AC n c1) ∧ W.cell? ⟨m, 1, none⟩ = some (.slice AD nd c2) ∧ W.cell? ⟨m, 2, none⟩ = some (.int .u32 z) ∧ W.cell? ⟨m, 3, none⟩ = some (.int .u32 sk) ∧ W.cell? ⟨m, 4, none⟩ = some (.slice AL nl kL) ∧ W.cell? ⟨m, 5, none⟩ = some (.slice AF nf kF) ∧ W.cell? ⟨m, 6, none⟩ = some (.slice AT nt c3) ∧ W.cell? ⟨m, 7, none⟩ = some (.slice AE ne kE) ∧ LS w.heap.size g m #[.slice AC (n + 64) c1, .slice AD (nd + 64) c2, .int .u32 z, .int .u32 sk, .slice AL (nl + 64) kL, .slice AF (nf + 64) kF, .slice AT (nt + 64) c3, .slice AE (ne + 64) kE] #[.slice AC n c1, .slice AD nd c2, .int .u32 z, .int .u32 sk, .slice AL nl kL, .slice AF nf kF, .slice AT nt c3, .slice AE ne kE] (RR) w W)
          (first | (with_reducible exact ls_all HLS.out) | (with_reducible exact ls_all (LS.setR (ls_of (by assumption)) (.inl rfl) rfl)) | (with_reducible exact ls_all (LS.setR (ls_of (by assumption)) (.inr rfl) rfl)))
          (first
            | (have HST := (LS.x1 (ls_of (by assumption))).st (cs := #[.slice AC n c1, .slice AD nd c2, .int .u32 z, .int .u32 sk, .slice AL nl kL, .slice AF nf kF, .slice AT nt c3, .slice AE ne kE]) rfl (by simp [Value.oneCell']); simp [go_sem] at HST; rw [HST]; go_simp)
            | (have HST := (LS.x2 (ls_of (by assumption))).st (cs := #[.slice AC (n + 64) c1, .slice AD (nd + 64) c2, .int .u32 z, .int .u32 sk, .slice AL (nl + 64) kL, .slice AF (nf + 64) kF, .slice AT (nt + 64) c3, .slice AE (ne + 64) kE]) rfl (by simp [Value.oneCell']); simp [go_sem] at HST; rw [HST]; go_simp))
        all_goals
          go_wp2
          obtain ⟨hkL, hkF, hkE⟩ := HKK.out
          have hn := HN.out; have hnd := HND.out; have hnl := HNL.out; have hnf := HNF.out; have hnt := HNT.out; have hne := HNE.out; have hz := HZ.out; have hsk := HSK.out
          have hcap : capsO (fullO x) ⟨⟨AC, c1⟩, ⟨AD, c2⟩, ⟨AL, kL⟩, ⟨AF, kF⟩, ⟨AT, c3⟩, ⟨AE, kE⟩⟩ := capsO_full _ _ (by rw [← hn]; exact hc1) (by rw [← hnd]; exact hc2) (by rw [← hnl]; exact hkL) (by rw [← hnf]; exact hkF) (by rw [← hnt]; exact hc3) (by rw [← hne]; exact hkE)
          have hLS := HLS.out
          rw [HRR.out] at hLS
          have hval : (Ending.returned (.tuple #[.agg #[.slice AC n c1, .slice AD nd c2, .int .u32 z, .int .u32 sk, .slice AL nl kL, .slice AF nf kF, .slice AT nt c3, .slice AE ne kE], .agg #[.slice AC (n + 64) c1, .slice AD (nd + 64) c2, .int .u32 z, .int .u32 sk, .slice AL (nl + 64) kL, .slice AF (nf + 64) kF, .slice AT (nt + 64) c3, .slice AE (ne + 64) kE]])) = .returned (.tuple #[.agg (objV x ⟨⟨AC, c1⟩, ⟨AD, c2⟩, ⟨AL, kL⟩, ⟨AF, kF⟩, ⟨AT, c3⟩, ⟨AE, kE⟩⟩), .agg (objV (fullO x) ⟨⟨AC, c1⟩, ⟨AD, c2⟩, ⟨AL, kL⟩, ⟨AF, kF⟩, ⟨AT, c3⟩, ⟨AE, kE⟩⟩)]) := by
            rw [objV_full, hn, hnd, hnl, hnf, hnt, hne, hz, hsk]
            rfl
          first
            | exact bodyPost_ret (results_two_rows rfl _ _ (w.heap.size + 1) (w.heap.size + 2) _ _ _ _ rfl rfl (hLS.two21 #[.slice AC n c1, .slice AD nd c2, .int .u32 z, .int .u32 sk, .slice AL nl kL, .slice AF nf kF, .slice AT nt c3, .slice AE ne kE] #[.slice AC (n + 64) c1, .slice AD (nd + 64) c2, .int .u32 z, .int .u32 sk, .slice AL (nl + 64) kL, .slice AF (nf + 64) kF, .slice AT (nt + 64) c3, .slice AE (ne + 64) kE]).1 (hLS.two21 #[.slice AC n c1, .slice AD nd c2, .int .u32 z, .int .u32 sk, .slice AL nl kL, .slice AF nf kF, .slice AT nt c3, .slice AE ne kE] #[.slice AC (n + 64) c1, .slice AD (nd + 64) c2, .int .u32 z, .int .u32 sk, .slice AL (nl + 64) kL, .slice AF (nf + 64) kF, .slice AT (nt + 64) c3, .slice AE (ne + 64) kE]).2 Tryz.underlying30 rfl obj_size obj_size) rfl (lent_close ((hLS.setR (.inr rfl) rfl).setR (.inl rfl) rfl) hcap hval)
            | exact bodyPost_ret (results_two_rows rfl _ _ (w.heap.size + 1) (w.heap.size + 2) _ _ _ _ rfl rfl (hLS.two12 #[.slice AC n c1, .slice AD nd c2, .int .u32 z, .int .u32 sk, .slice AL nl kL, .slice AF nf kF, .slice AT nt c3, .slice AE ne kE] #[.slice AC (n + 64) c1, .slice AD (nd + 64) c2, .int .u32 z, .int .u32 sk, .slice AL (nl + 64) kL, .slice AF (nf + 64) kF, .slice AT (nt + 64) c3, .slice AE (ne + 64) kE]).1 (hLS.two12 #[.slice AC n c1, .slice AD nd c2, .int .u32 z, .int .u32 sk, .slice AL nl kL, .slice AF nf kF, .slice AT nt c3, .slice AE ne kE] #[.slice AC (n + 64) c1, .slice AD (nd + 64) c2, .int .u32 z, .int .u32 sk, .slice AL (nl + 64) kL, .slice AF (nf + 64) kF, .slice AT (nt + 64) c3, .slice AE (ne + 64) kE]).2 Tryz.underlying30 rfl obj_size obj_size) rfl (lent_close ((hLS.setR (.inl rfl) rfl).setR (.inr rfl) rfl) hcap hval)
end Go.Proofs.YtnkfjileaonemaaGreatDoor
/-
  KeptObject: what LentObject has laid is as it was, its marks too.
-/
namespace Go.Proofs.YtnkfjileaonemaaGreatDoor
open Go.RowKit Go.PlainAid Go.BigFrame
set_option linter.unusedSimpArgs false
set_option linter.unusedVariables false
set_option maxRecDepth 100000
set_option maxHeartbeats 16000000 in
theorem KeptObject_any (x : ObjV) (s s' : ObjS) (B : Nat) (w : World) (hx : ObjOk x) (hf : ObjFit x) (ha : ObjR w B (fullO x) s) (hb : ObjR w B x s') (hB : B ≤ w.heap.size) : Calls Tryz.prog 8 #[.agg (objV (fullO x) s), .agg (objV x s')] w fun e w' => e = .returned (.bool true) ∧ Below w.heap.size w w' := by
  rw [objV_full]
  have hap := ha.pre
  have HSO := hide_ (fun W (hw : Below w.heap.size w W) => SameObject_any x s s' B W hx (hap.below (hw.mono hB)) (hb.below (hw.mono hB)) (Nat.le_trans hB hw.size))
  have hco := hap.caps
  obtain ⟨⟨aC, a0⟩, ⟨aD, a1⟩, ⟨aL, a2⟩, ⟨aF, a3⟩, ⟨aT, a4⟩, ⟨aE, a5⟩⟩ := s
  obtain ⟨⟨bC, b0⟩, ⟨bD, b1⟩, ⟨bL, b2⟩, ⟨bF, b3⟩, ⟨bT, b4⟩, ⟨bE, b5⟩⟩ := s'
  obtain ⟨l1, l2, l3, l4, l5, l6⟩ := hx.lens
  obtain ⟨m1, m2, m3, m4, m5, m6⟩ := hf
  obtain ⟨rc, rd, rl, rf, rt, re, hca⟩ := ha
  simp only [fullO, capsO, List.length_append, marksC_len, marks8_len, marksS_len, marksL_len, marksF_len, marksE_len] at rc rd rl rf rt re hca
  have HKA := hide_ hca
  have HKB := hide_ hco
  have HC := hide_ (And.intro rc hb.rc)
  have HDD := hide_ (And.intro rd hb.rd)
  have HRL := hide_ rl
  have HRF := hide_ rf
  have HRE := hide_ re
  have HT := hide_ (And.intro rt hb.rt)
  clear hca hco rc rd rl rf rt re
  dsimp only [objV] at HC HDD HRL HRF HRE HT HSO HKA HKB ⊢
  obtain ⟨n, hn⟩ : ∃ n, n = x.code.length := ⟨_, rfl⟩
  obtain ⟨nd, hnd⟩ : ∃ n, n = x.data.length := ⟨_, rfl⟩
  obtain ⟨nl, hnl⟩ : ∃ n, n = x.labels.length := ⟨_, rfl⟩
  obtain ⟨nf, hnf⟩ : ∃ n, n = x.fixes.length := ⟨_, rfl⟩
  obtain ⟨nt, hnt⟩ : ∃ n, n = x.targets.length := ⟨_, rfl⟩
  obtain ⟨ne, hne⟩ : ∃ n, n = x.entries.length := ⟨_, rfl⟩
  obtain ⟨z, hz⟩ : ∃ z, z = x.zero := ⟨_, rfl⟩
  obtain ⟨sk, hsk⟩ : ∃ z, z = x.stack := ⟨_, rfl⟩
  rw [← hn, ← hnd, ← hnl, ← hnf, ← hnt, ← hne, ← hz, ← hsk] at HSO
  rw [← hn, ← hnd, ← hnl, ← hnf, ← hnt, ← hne] at HKA HKB
  rw [← hn, ← hnd, ← hnl, ← hnf, ← hnt, ← hne, ← hz, ← hsk]
  rw [← hn] at HC l1 m1
  rw [← hnd] at HDD l2 m2
  rw [← hnl] at HRL l3 m3
  rw [← hnf] at HRF l4 m4
  rw [← hnt] at HT l5 m5
  rw [← hne] at HRE l6 m6
  have HSC := hide_ (fun W (hw : Below w.heap.size w W) => KeptCode_any aC bC n a0 b0 B x.code W l1 hn.symm (HC.out.1.below (hw.mono hB)) (HC.out.2.below (hw.mono hB)) (Nat.le_trans hB hw.size))
  have HSD := hide_ (fun W (hw : Below w.heap.size w W) => KeptBytes_any aD bD (nd + 64) a1 nd b1 (x.data ++ marks8 0 0 64) x.data B W (HDD.out.1.below (hw.mono hB)) (HDD.out.2.below (hw.mono hB)) (by unfold maxLen; omega) (by unfold maxLen; omega) |>.mono (fun e w' h => show e = .returned (.bool true) ∧ ∃ nq, w' = W.drewN nq by simpa using h))
  have HST := hide_ (fun W (hw : Below w.heap.size w W) => KeptTexts_any aT bT nt a4 b4 B x.targets W l5 (HT.out.1.below (hw.mono hB)) (HT.out.2.below (hw.mono hB)) (Nat.le_trans hB hw.size))
  have HNL := hide_ hnl.symm
  have HNF := hide_ hnf.symm
  have HNE := hide_ hne.symm
  have HBB := hide_ hB
  have e1 : (((nl : Int) + 64) != ((nl : Int) + 64)) = false := by simp
  have e2 : (((nf : Int) + 64) != ((nf : Int) + 64)) = false := by simp
  have e3 : (((ne : Int) + 64) != ((ne : Int) + 64)) = false := by simp
  clear hb hap hx hn hnd hnl hnf hnt hne hz hsk HC HDD HT hB
  obtain ⟨W1, hW1⟩ : ∃ W, W = ((w.alloc (.cells #[.slice aC (n + 64) a0, .slice aD (nd + 64) a1, .int .u32 z, .int .u32 sk, .slice aL (nl + 64) a2, .slice aF (nf + 64) a3, .slice aT (nt + 64) a4, .slice aE (ne + 64) a5] 30)).alloc (.cells #[.slice bC n b0, .slice bD nd b1, .int .u32 z, .int .u32 sk, .slice bL nl b2, .slice bF nf b3, .slice bT nt b4, .slice bE ne b5] 30)) := ⟨_, rfl⟩
  have f0 : W1.cell? ⟨w.heap.size, 0, none⟩ = some (.slice aC (n + 64) a0) := by rw [hW1]; go_simp
  have f1 : W1.cell? ⟨w.heap.size, 1, none⟩ = some (.slice aD (nd + 64) a1) := by rw [hW1]; go_simp
  have f2 : W1.cell? ⟨w.heap.size, 2, none⟩ = some (.int .u32 z) := by rw [hW1]; go_simp
  have f3 : W1.cell? ⟨w.heap.size, 3, none⟩ = some (.int .u32 sk) := by rw [hW1]; go_simp
  have f4 : W1.cell? ⟨w.heap.size, 4, none⟩ = some (.slice aL (nl + 64) a2) := by rw [hW1]; go_simp
  have f5 : W1.cell? ⟨w.heap.size, 5, none⟩ = some (.slice aF (nf + 64) a3) := by rw [hW1]; go_simp
  have f6 : W1.cell? ⟨w.heap.size, 6, none⟩ = some (.slice aT (nt + 64) a4) := by rw [hW1]; go_simp
  have f7 : W1.cell? ⟨w.heap.size, 7, none⟩ = some (.slice aE (ne + 64) a5) := by rw [hW1]; go_simp
  have g0 : W1.cell? ⟨w.heap.size + 1, 0, none⟩ = some (.slice bC n b0) := by rw [hW1]; go_simp
  have g1 : W1.cell? ⟨w.heap.size + 1, 1, none⟩ = some (.slice bD nd b1) := by rw [hW1]; go_simp
  have g2 : W1.cell? ⟨w.heap.size + 1, 2, none⟩ = some (.int .u32 z) := by rw [hW1]; go_simp
  have g3 : W1.cell? ⟨w.heap.size + 1, 3, none⟩ = some (.int .u32 sk) := by rw [hW1]; go_simp
  have g4 : W1.cell? ⟨w.heap.size + 1, 4, none⟩ = some (.slice bL nl b2) := by rw [hW1]; go_simp
  have g5 : W1.cell? ⟨w.heap.size + 1, 5, none⟩ = some (.slice bF nf b3) := by rw [hW1]; go_simp
  have g6 : W1.cell? ⟨w.heap.size + 1, 6, none⟩ = some (.slice bT nt b4) := by rw [hW1]; go_simp
  have g7 : W1.cell? ⟨w.heap.size + 1, 7, none⟩ = some (.slice bE ne b5) := by rw [hW1]; go_simp
  have HB1 := hide_ (show Below w.heap.size w W1 by rw [hW1]; exact (((Below.refl _ _).alloc (Nat.le_refl _) _).alloc (by simp) _))
  have hlt0 : w.heap.size < W1.heap.size := by rw [hW1]; simp; omega
  have hlt1 : w.heap.size + 1 < W1.heap.size := by rw [hW1]; simp
  go_enter Tryz.func8, Tryz.ntmps8
  go_upto_region 1 with (fail)
  rw [← hW1]
  clear hW1
  go_big_quiet (fail)
  have hbd : Below W1.heap.size W1 (W1.drewN nq) := below_drewN _ (Below.refl _ _)
  obtain ⟨W1d, hWd⟩ : ∃ W, W = W1.drewN nq := ⟨_, rfl⟩
  rw [← hWd] at hbd ⊢
  clear hWd
  have f0 := (hbd.cell (p := ⟨w.heap.size, 0, none⟩) hlt0).trans f0
  have f1 := (hbd.cell (p := ⟨w.heap.size, 1, none⟩) hlt0).trans f1
  have f2 := (hbd.cell (p := ⟨w.heap.size, 2, none⟩) hlt0).trans f2
  have f3 := (hbd.cell (p := ⟨w.heap.size, 3, none⟩) hlt0).trans f3
  have f4 := (hbd.cell (p := ⟨w.heap.size, 4, none⟩) hlt0).trans f4
  have f5 := (hbd.cell (p := ⟨w.heap.size, 5, none⟩) hlt0).trans f5
  have f6 := (hbd.cell (p := ⟨w.heap.size, 6, none⟩) hlt0).trans f6
  have f7 := (hbd.cell (p := ⟨w.heap.size, 7, none⟩) hlt0).trans f7
  have g0 := (hbd.cell (p := ⟨w.heap.size + 1, 0, none⟩) hlt1).trans g0
  have g1 := (hbd.cell (p := ⟨w.heap.size + 1, 1, none⟩) hlt1).trans g1
  have g2 := (hbd.cell (p := ⟨w.heap.size + 1, 2, none⟩) hlt1).trans g2
  have g3 := (hbd.cell (p := ⟨w.heap.size + 1, 3, none⟩) hlt1).trans g3
  have g4 := (hbd.cell (p := ⟨w.heap.size + 1, 4, none⟩) hlt1).trans g4
  have g5 := (hbd.cell (p := ⟨w.heap.size + 1, 5, none⟩) hlt1).trans g5
  have g6 := (hbd.cell (p := ⟨w.heap.size + 1, 6, none⟩) hlt1).trans g6
  have g7 := (hbd.cell (p := ⟨w.heap.size + 1, 7, none⟩) hlt1).trans g7
  have hlt0 := Nat.lt_of_lt_of_le hlt0 hbd.size
  have hlt1 := Nat.lt_of_lt_of_le hlt1 hbd.size
  have HBd := hide_ (HB1.out.trans (hbd.mono HB1.out.size))
  clear hbd HB1
  go_wp2_with fail
  refine (HSC.out _ HBd.out).mono ?_
  rintro e W2 ⟨rfl, hb2⟩
  have f0 := (hb2.cell (p := ⟨w.heap.size, 0, none⟩) hlt0).trans f0
  have f1 := (hb2.cell (p := ⟨w.heap.size, 1, none⟩) hlt0).trans f1
  have f2 := (hb2.cell (p := ⟨w.heap.size, 2, none⟩) hlt0).trans f2
  have f3 := (hb2.cell (p := ⟨w.heap.size, 3, none⟩) hlt0).trans f3
  have f4 := (hb2.cell (p := ⟨w.heap.size, 4, none⟩) hlt0).trans f4
  have f5 := (hb2.cell (p := ⟨w.heap.size, 5, none⟩) hlt0).trans f5
  have f6 := (hb2.cell (p := ⟨w.heap.size, 6, none⟩) hlt0).trans f6
  have f7 := (hb2.cell (p := ⟨w.heap.size, 7, none⟩) hlt0).trans f7
  have g0 := (hb2.cell (p := ⟨w.heap.size + 1, 0, none⟩) hlt1).trans g0
  have g1 := (hb2.cell (p := ⟨w.heap.size + 1, 1, none⟩) hlt1).trans g1
  have g2 := (hb2.cell (p := ⟨w.heap.size + 1, 2, none⟩) hlt1).trans g2
  have g3 := (hb2.cell (p := ⟨w.heap.size + 1, 3, none⟩) hlt1).trans g3
  have g4 := (hb2.cell (p := ⟨w.heap.size + 1, 4, none⟩) hlt1).trans g4
  have g5 := (hb2.cell (p := ⟨w.heap.size + 1, 5, none⟩) hlt1).trans g5
  have g6 := (hb2.cell (p := ⟨w.heap.size + 1, 6, none⟩) hlt1).trans g6
  have g7 := (hb2.cell (p := ⟨w.heap.size + 1, 7, none⟩) hlt1).trans g7
  have hlt0 := Nat.lt_of_lt_of_le hlt0 hb2.size
  have hlt1 := Nat.lt_of_lt_of_le hlt1 hb2.size
  have HB2 := hide_ (HBd.out.trans (hb2.mono HBd.out.size))
  clear hb2 HBd
  go_wp2_with fail
  refine (HSD.out _ HB2.out).mono ?_
  rintro e W3 ⟨rfl, nq, hw3⟩
  have hb3 : Below W2.heap.size W2 W3 := by rw [hw3]; exact below_drewN _ (Below.refl _ _)
  clear hw3
  have f0 := (hb3.cell (p := ⟨w.heap.size, 0, none⟩) hlt0).trans f0
  have f1 := (hb3.cell (p := ⟨w.heap.size, 1, none⟩) hlt0).trans f1
  have f2 := (hb3.cell (p := ⟨w.heap.size, 2, none⟩) hlt0).trans f2
  have f3 := (hb3.cell (p := ⟨w.heap.size, 3, none⟩) hlt0).trans f3
  have f4 := (hb3.cell (p := ⟨w.heap.size, 4, none⟩) hlt0).trans f4
  have f5 := (hb3.cell (p := ⟨w.heap.size, 5, none⟩) hlt0).trans f5
  have f6 := (hb3.cell (p := ⟨w.heap.size, 6, none⟩) hlt0).trans f6
  have f7 := (hb3.cell (p := ⟨w.heap.size, 7, none⟩) hlt0).trans f7
  have g0 := (hb3.cell (p := ⟨w.heap.size + 1, 0, none⟩) hlt1).trans g0
  have g1 := (hb3.cell (p := ⟨w.heap.size + 1, 1, none⟩) hlt1).trans g1
  have g2 := (hb3.cell (p := ⟨w.heap.size + 1, 2, none⟩) hlt1).trans g2
  have g3 := (hb3.cell (p := ⟨w.heap.size + 1, 3, none⟩) hlt1).trans g3
  have g4 := (hb3.cell (p := ⟨w.heap.size + 1, 4, none⟩) hlt1).trans g4
  have g5 := (hb3.cell (p := ⟨w.heap.size + 1, 5, none⟩) hlt1).trans g5
  have g6 := (hb3.cell (p := ⟨w.heap.size + 1, 6, none⟩) hlt1).trans g6
  have g7 := (hb3.cell (p := ⟨w.heap.size + 1, 7, none⟩) hlt1).trans g7
  have hlt0 := Nat.lt_of_lt_of_le hlt0 hb3.size
  have hlt1 := Nat.lt_of_lt_of_le hlt1 hb3.size
  have HB3 := hide_ (HB2.out.trans (hb3.mono HB2.out.size))
  clear hb3 HB2
  go_wp2_with fail
  refine (HST.out _ HB3.out).mono ?_
  rintro e W4 ⟨rfl, hb4⟩
  have f0 := (hb4.cell (p := ⟨w.heap.size, 0, none⟩) hlt0).trans f0
  have f1 := (hb4.cell (p := ⟨w.heap.size, 1, none⟩) hlt0).trans f1
  have f2 := (hb4.cell (p := ⟨w.heap.size, 2, none⟩) hlt0).trans f2
  have f3 := (hb4.cell (p := ⟨w.heap.size, 3, none⟩) hlt0).trans f3
  have f4 := (hb4.cell (p := ⟨w.heap.size, 4, none⟩) hlt0).trans f4
  have f5 := (hb4.cell (p := ⟨w.heap.size, 5, none⟩) hlt0).trans f5
  have f6 := (hb4.cell (p := ⟨w.heap.size, 6, none⟩) hlt0).trans f6
  have f7 := (hb4.cell (p := ⟨w.heap.size, 7, none⟩) hlt0).trans f7
  have g0 := (hb4.cell (p := ⟨w.heap.size + 1, 0, none⟩) hlt1).trans g0
  have g1 := (hb4.cell (p := ⟨w.heap.size + 1, 1, none⟩) hlt1).trans g1
  have g2 := (hb4.cell (p := ⟨w.heap.size + 1, 2, none⟩) hlt1).trans g2
  have g3 := (hb4.cell (p := ⟨w.heap.size + 1, 3, none⟩) hlt1).trans g3
  have g4 := (hb4.cell (p := ⟨w.heap.size + 1, 4, none⟩) hlt1).trans g4
  have g5 := (hb4.cell (p := ⟨w.heap.size + 1, 5, none⟩) hlt1).trans g5
  have g6 := (hb4.cell (p := ⟨w.heap.size + 1, 6, none⟩) hlt1).trans g6
  have g7 := (hb4.cell (p := ⟨w.heap.size + 1, 7, none⟩) hlt1).trans g7
  have hlt0 := Nat.lt_of_lt_of_le hlt0 hb4.size
  have hlt1 := Nat.lt_of_lt_of_le hlt1 hb4.size
  have HB4 := hide_ (HB3.out.trans (hb4.mono HB3.out.size))
  clear hb4 HB3
  go_wp2
  go_loopw [8] (fun i wr => ∃ j : Nat, j ≤ 64 ∧ i = .int .i64 j ∧ Below W4.heap.size W4 wr) (fun i _ => 64 - (intOf i).toNat)
  case atStart => exact ⟨0, by omega, rfl, Below.refl _ _⟩
  case round =>
    obtain ⟨j, hj, rfl, hbr⟩ := hrel
    have HBR := hide_ hbr
    have HB4r := hide_ (HB4.out.trans (hbr.mono HB4.out.size))
    have f0 := (hbr.cell (p := ⟨w.heap.size, 0, none⟩) hlt0).trans f0
    have f1 := (hbr.cell (p := ⟨w.heap.size, 1, none⟩) hlt0).trans f1
    have f2 := (hbr.cell (p := ⟨w.heap.size, 2, none⟩) hlt0).trans f2
    have f3 := (hbr.cell (p := ⟨w.heap.size, 3, none⟩) hlt0).trans f3
    have f4 := (hbr.cell (p := ⟨w.heap.size, 4, none⟩) hlt0).trans f4
    have f5 := (hbr.cell (p := ⟨w.heap.size, 5, none⟩) hlt0).trans f5
    have f6 := (hbr.cell (p := ⟨w.heap.size, 6, none⟩) hlt0).trans f6
    have f7 := (hbr.cell (p := ⟨w.heap.size, 7, none⟩) hlt0).trans f7
    have g0 := (hbr.cell (p := ⟨w.heap.size + 1, 0, none⟩) hlt1).trans g0
    have g1 := (hbr.cell (p := ⟨w.heap.size + 1, 1, none⟩) hlt1).trans g1
    have g2 := (hbr.cell (p := ⟨w.heap.size + 1, 2, none⟩) hlt1).trans g2
    have g3 := (hbr.cell (p := ⟨w.heap.size + 1, 3, none⟩) hlt1).trans g3
    have g4 := (hbr.cell (p := ⟨w.heap.size + 1, 4, none⟩) hlt1).trans g4
    have g5 := (hbr.cell (p := ⟨w.heap.size + 1, 5, none⟩) hlt1).trans g5
    have g6 := (hbr.cell (p := ⟨w.heap.size + 1, 6, none⟩) hlt1).trans g6
    have g7 := (hbr.cell (p := ⟨w.heap.size + 1, 7, none⟩) hlt1).trans g7
    have hlt0 := Nat.lt_of_lt_of_le hlt0 hbr.size
    have hlt1 := Nat.lt_of_lt_of_le hlt1 hbr.size
    have HSZ := hide_ hbr.size
    clear hbr
    by_cases hlt : j < 64
    · clear f0 f1 f2 f3 f6 g0 g1 g2 g3 g4 g5 g6 g7
      have wr1 : IntKind.u32.wrap (j : Int) = (j : Int) := IntWalk.u32_in _ (by omega)
      have wr2 : IntKind.u8.wrap (j : Int) = (j : Int) := IntWalk.u8_in _ (by omega)
      obtain ⟨_, adL, rfl, hbkL, p0L, p1L⟩ := el_cells lE_len (HRL.out.below (HB4r.out.mono HBB.out)) (by omega) (show (x.labels ++ marksL 64)[nl + j]? = some (mkL j) by rw [List.getElem?_append_right (by have := HNL.out; omega), show nl + j - x.labels.length = j by have := HNL.out; omega, marksL_get hlt])
      have xL0 := p0L _ rfl
      have xL1 := p1L 1 _ (by omega) rfl
      have xL2 := p1L 2 _ (by omega) rfl
      have xL3 := p1L 3 _ (by omega) rfl
      have hlL : (adL.add ((nl + j) * 4)).block < wr.heap.size := by have := HBB.out; have := HB4r.out.size; omega
      clear hbkL p0L p1L
      have sL1 : IntKind.i64.wrap ((nl : Int) + (j : Int)) = (nl : Int) + (j : Int) := IntWalk.i64_in _ (by omega)
      have sL2 : (0 : Int) ≤ (nl : Int) + (j : Int) := by omega
      have sL3 : ((nl : Int) + (j : Int)).toNat = nl + j := by omega
      have sL4 : (nl : Int) + (j : Int) < (nl : Int) + 64 := by omega
      obtain ⟨_, adF, rfl, hbkF, p0F, p1F⟩ := el_cells fE_len (HRF.out.below (HB4r.out.mono HBB.out)) (by omega) (show (x.fixes ++ marksF 64)[nf + j]? = some (mkF j) by rw [List.getElem?_append_right (by have := HNF.out; omega), show nf + j - x.fixes.length = j by have := HNF.out; omega, marksF_get hlt])
      have xF0 := p0F _ rfl
      have xF1 := p1F 1 _ (by omega) rfl
      have xF2 := p1F 2 _ (by omega) rfl
      have xF3 := p1F 3 _ (by omega) rfl
      have hlF : (adF.add ((nf + j) * 4)).block < wr.heap.size := by have := HBB.out; have := HB4r.out.size; omega
      clear hbkF p0F p1F
      have sF1 : IntKind.i64.wrap ((nf : Int) + (j : Int)) = (nf : Int) + (j : Int) := IntWalk.i64_in _ (by omega)
      have sF2 : (0 : Int) ≤ (nf : Int) + (j : Int) := by omega
      have sF3 : ((nf : Int) + (j : Int)).toNat = nf + j := by omega
      have sF4 : (nf : Int) + (j : Int) < (nf : Int) + 64 := by omega
      obtain ⟨_, adE, rfl, hbkE, p0E, p1E⟩ := el_cells eE_len (HRE.out.below (HB4r.out.mono HBB.out)) (by omega) (show (x.entries ++ marksE 64)[ne + j]? = some (mkE j) by rw [List.getElem?_append_right (by have := HNE.out; omega), show ne + j - x.entries.length = j by have := HNE.out; omega, marksE_get hlt])
      have xE0 := p0E _ rfl
      have xE1 := p1E 1 _ (by omega) rfl
      have hlE : (adE.add ((ne + j) * 2)).block < wr.heap.size := by have := HBB.out; have := HB4r.out.size; omega
      clear hbkE p0E p1E
      have sE1 : IntKind.i64.wrap ((ne : Int) + (j : Int)) = (ne : Int) + (j : Int) := IntWalk.i64_in _ (by omega)
      have sE2 : (0 : Int) ≤ (ne : Int) + (j : Int) := by omega
      have sE3 : ((ne : Int) + (j : Int)).toNat = ne + j := by omega
      have sE4 : (ne : Int) + (j : Int) < (ne : Int) + 64 := by omega
      dsimp only [mkL, mkF, mkE] at xL0 xL1 xL2 xL3 xF0 xF1 xF2 xF3 xE0 xE1
      obtain ⟨SJ, hSJ⟩ : ∃ S, S = textOf [j] := ⟨_, rfl⟩
      have hcv := (fun W : World => show (convert 23 9 (.slice (some ⟨W.heap.size, 0, none⟩) 1 1)).run Tryz.prog (W.alloc (.cells #[.int .u8 (j : Int)] 5)) = .ok (.string SJ) (W.alloc (.cells #[.int .u8 (j : Int)] 5)) from by rw [hSJ]; exact conv_new W [j] 1) wr.drew
      have hcv2 : (convert 23 9 (.slice (some ⟨wr.heap.size, 0, none⟩) 1 1)).run Tryz.prog (wr.alloc (.cells #[.int .u8 (j : Int)] 5)).drew = .ok (.string SJ) (wr.alloc (.cells #[.int .u8 (j : Int)] 5)).drew := hcv
      rw [← hSJ] at xE1
      clear hSJ
      have q1 := fun w => lab_eq w markB 0 j false
      have q2 := fun w => fix_eq w markB 0 j 0
      have q3 := fun w => ent_eq w markB SJ
      rw [show markB = ⟨#[109, 97, 114, 107]⟩ from rfl] at *
      go_wp2
      go_region
      all_goals
        have HBn := hide_ ((HBR.out.alloc HSZ.out (.cells #[.int .u8 (j : Int)] 5)).drew)
        go_wp2
        go_roundw
        case rel => exact ⟨j + 1, by omega, by go_num, HBn.out⟩
        case measure => simp [intOf]; omega
    · obtain rfl : j = 64 := by omega
      clear e1 e2 e3
      obtain ⟨r0, r1, r2, r3, r4, r5⟩ := HKB.out
      have HBn := hide_ (HB4r.out.alloc HB4r.out.size (.cells #[.slice aC n a0, .slice aD nd a1, .int .u32 z, .int .u32 sk, .slice aL nl a2, .slice aF nf a3, .slice aT nt a4, .slice aE ne a5] 30))
      go_wp2_with fail
      refine (HSO.out _ HBn.out).mono ?_
      rintro e W9 ⟨rfl, hb9⟩
      have HB9 := hide_ (HBn.out.trans (hb9.mono HBn.out.size))
      clear hb9 r0 r1 r2 r3 r4 r5 f0 f1 f2 f3 f4 f5 f6 f7 g0 g1 g2 g3 g4 g5 g6 g7
      go_wp2
      go_ret
      exact ⟨rfl, HB9.out⟩
end Go.Proofs.YtnkfjileaonemaaGreatDoor
/-
  An object that came in: what its reading says of its cells.
-/
namespace Go.Proofs.YtnkfjileaonemaaGreatDoor
set_option maxRecDepth 100000
open Go.RowKit
section
variable {H : Type} {enc : TypeId × Value → H} {P : Program} {w : World} {held : Bool}
theorem seen_list {α : Type} [Inhabited α] {ec : α → List Value} {K : Nat} (hK : ∀ a, (ec a).length = K) (hp : 0 < K) {t e : TypeId} {ok : α → Prop} {cs : List Value} (ht : P.underlying t = some (.slice e)) (hc : P.cellsOf e = K)
    (hE : ∀ vs, Seen enc P w held e vs → ∃ a, vs = ec a ∧ ok a) (h : Seen enc P w held t cs) :
    ∃ (A : Option Addr) (n c : Nat) (xs : List α), cs = [.slice A n c] ∧ xs.length = n ∧ n ≤ c ∧ c ≤ maxLen ∧ c * P.bytesOf e ≤ reachBytes ∧ Reads w w.heap.size K A n (xs.flatMap ec) ∧ ∀ x ∈ xs, ok x := by
  obtain ⟨A, n, c, rfl, h1, h2, h3, h4⟩ := seen_slice ht (by omega) h
  rcases Nat.eq_zero_or_pos n with rfl | hn
  · exact ⟨A, 0, c, [], rfl, rfl, h1, h2, h3, ⟨by simp, fun h => absurd h (by omega)⟩, by simp⟩
  · obtain ⟨ad, rfl, hb, hi⟩ := h4 hn
    have hv : ∀ i, i < n → ∃ a : α, (∀ j u, (ec a)[j]? = some u → w.cell? (ad.add (i * K + j)) = some u) ∧ ok a := by
      intro i hlt
      obtain ⟨vs, hl, hcell, hs⟩ := hi i hlt
      obtain ⟨a, rfl, hw⟩ := hE _ hs
      refine ⟨a, fun j u hu => ?_, hw⟩
      have hj : j < P.cellsOf e := by rw [← hl]; exact (List.getElem?_eq_some_iff.1 hu).1
      have := hcell j hj
      rw [hc, add_of_add] at this
      exact this.trans hu
    obtain ⟨f, hf⟩ := skolem_lt hv
    refine ⟨some ad, n, c, (List.range n).map f, rfl, by simp, h1, h2, h3, ⟨by rw [enc_len hK]; simp, fun _ => ⟨ad, rfl, hb, fun j u hu => ?_⟩⟩, fun x hx => ?_⟩
    · have hj : j < n * K := by
        have := (List.getElem?_eq_some_iff.1 hu).1
        rw [enc_len hK] at this
        simpa using this
      have hq : j / K < n := Nat.div_lt_of_lt_mul (by rw [Nat.mul_comm]; exact hj)
      have hdm : j / K * K + j % K = j := by rw [Nat.mul_comm]; exact Nat.div_add_mod j K
      have hm : j % K < K := Nat.mod_lt _ hp
      have hg : ((List.range n).map f)[j / K]? = some (f (j / K)) := by simp [hq]
      have hlen : j % K < (ec (f (j / K))).length := by rw [hK]; exact hm
      have h5 := enc_get hK _ _ _ hg (j % K) _ (List.getElem?_eq_getElem hlen)
      rw [hdm, hu] at h5
      have h6 := (hf (j / K) hq).1 (j % K) _ (List.getElem?_eq_getElem hlen)
      rw [hdm] at h6
      rw [h6, h5]
    · obtain ⟨j, hj, rfl⟩ := List.mem_map.1 hx
      exact (hf j (List.mem_range.1 hj)).2
end
theorem sing {a b : Value} (h : [a] = [b]) : a = b := by injection h
instance : Inhabited LabV := ⟨⟨⟨#[]⟩, 0, 0, false⟩⟩
instance : Inhabited FixV := ⟨⟨0, 0, ⟨#[]⟩, 0⟩⟩
instance : Inhabited EntV := ⟨⟨⟨#[]⟩, ⟨#[]⟩⟩⟩
theorem u8_wf {a : Int} (h : (Lit.int .u8 a).wf = true) : 0 ≤ a ∧ a ≤ 255 := by
  have h := h
  simp [Lit.wf, show IntKind.u8.min = 0 from rfl, show IntKind.u8.max = 255 from rfl] at h
  omega
theorem u32_wf {a : Int} (h : (Lit.int .u32 a).wf = true) : 0 ≤ a ∧ a < 4294967296 := by
  have h := h
  simp [Lit.wf, show IntKind.u32.min = 0 from rfl, show IntKind.u32.max = 4294967295 from rfl] at h
  omega
section
variable {H : Type} {enc : TypeId × Value → H} {w : World}
theorem seen_instr {vs : List Value} (h : Seen enc Tryz.prog w true 52 vs) : ∃ a : Int × Int, vs = cE a ∧ (0 ≤ a.1 ∧ a.1 ≤ 255) ∧ 0 ≤ a.2 ∧ a.2 < 4294967296 := by
  obtain ⟨hl, hf⟩ := seen_struct Tryz.underlying52 h
  match vs, (show vs.length = 2 from hl) with
  | [v0, v1], _ =>
    obtain ⟨a, h0, w0⟩ := seen_int Tryz.underlying50 (hf 0 _ rfl)
    obtain ⟨b, h1, w1⟩ := seen_int Tryz.underlying24 (hf 1 _ rfl)
    have e0 : [v0] = [Value.int .u8 a] := h0
    have e1 : [v1] = [Value.int .u32 b] := h1
    injection e0 with e0 _
    injection e1 with e1 _
    subst e0 e1
    exact ⟨(a, b), rfl, u8_wf w0, u32_wf w1⟩
theorem seen_lab {vs : List Value} (h : Seen enc Tryz.prog w true 45 vs) : ∃ a : LabV, vs = lE a ∧ a.name.size ≤ 140737488351232 ∧ (0 ≤ a.sec ∧ a.sec ≤ 255) ∧ 0 ≤ a.at_ ∧ a.at_ < 4294967296 := by
  obtain ⟨hl, hf⟩ := seen_struct Tryz.underlying45 h
  match vs, (show vs.length = 4 from hl) with
  | [v0, v1, v2, v3], _ =>
    obtain ⟨a, h0, w0⟩ := seen_string Tryz.underlying9 (hf 0 _ rfl)
    obtain ⟨b, h1, w1⟩ := seen_int Tryz.underlying43 (hf 1 _ rfl)
    obtain ⟨c, h2, w2⟩ := seen_int Tryz.underlying24 (hf 2 _ rfl)
    obtain ⟨d, h3⟩ := seen_bool Tryz.underlying4 (hf 3 _ rfl)
    have e0 : [v0] = [Value.string a] := h0
    have e1 : [v1] = [Value.int .u8 b] := h1
    have e2 : [v2] = [Value.int .u32 c] := h2
    have e3 : [v3] = [Value.bool d] := h3
    injection e0 with e0 _
    injection e1 with e1 _
    injection e2 with e2 _
    injection e3 with e3 _
    subst e0 e1 e2 e3
    exact ⟨⟨a, b, c, d⟩, rfl, w0, u8_wf w1, u32_wf w2⟩
theorem seen_fix {vs : List Value} (h : Seen enc Tryz.prog w true 47 vs) : ∃ a : FixV, vs = fE a ∧ a.name.size ≤ 140737488351232 ∧ (0 ≤ a.sec ∧ a.sec ≤ 255) ∧ (0 ≤ a.at_ ∧ a.at_ < 4294967296) ∧ 0 ≤ a.add ∧ a.add < 4294967296 := by
  obtain ⟨hl, hf⟩ := seen_struct Tryz.underlying47 h
  match vs, (show vs.length = 4 from hl) with
  | [v0, v1, v2, v3], _ =>
    obtain ⟨a, h0, w0⟩ := seen_int Tryz.underlying43 (hf 0 _ rfl)
    obtain ⟨b, h1, w1⟩ := seen_int Tryz.underlying24 (hf 1 _ rfl)
    obtain ⟨c, h2, w2⟩ := seen_string Tryz.underlying9 (hf 2 _ rfl)
    obtain ⟨d, h3, w3⟩ := seen_int Tryz.underlying24 (hf 3 _ rfl)
    have e0 : [v0] = [Value.int .u8 a] := h0
    have e1 : [v1] = [Value.int .u32 b] := h1
    have e2 : [v2] = [Value.string c] := h2
    have e3 : [v3] = [Value.int .u32 d] := h3
    injection e0 with e0 _
    injection e1 with e1 _
    injection e2 with e2 _
    injection e3 with e3 _
    subst e0 e1 e2 e3
    exact ⟨⟨a, b, c, d⟩, rfl, w2, u8_wf w0, u32_wf w1, u32_wf w3⟩
theorem seen_ent {vs : List Value} (h : Seen enc Tryz.prog w true 49 vs) : ∃ a : EntV, vs = eE a ∧ a.name.size ≤ 140737488351232 ∧ a.lab.size ≤ 140737488351232 := by
  obtain ⟨hl, hf⟩ := seen_struct Tryz.underlying49 h
  match vs, (show vs.length = 2 from hl) with
  | [v0, v1], _ =>
    obtain ⟨a, h0, w0⟩ := seen_string Tryz.underlying9 (hf 0 _ rfl)
    obtain ⟨b, h1, w1⟩ := seen_string Tryz.underlying9 (hf 1 _ rfl)
    have e0 : [v0] = [Value.string a] := h0
    have e1 : [v1] = [Value.string b] := h1
    injection e0 with e0 _
    injection e1 with e1 _
    subst e0 e1
    exact ⟨⟨a, b⟩, rfl, w0, w1⟩
/-- what an argument of type api.Object is -/
theorem obj_arg {base : Nat} {v : Value} (hv : Value.okWide Tryz.prog w .any base 30 v) (h : Seen enc Tryz.prog w true 30 v.cells.toList) :
    ∃ (x : ObjV) (s : ObjS), v = .agg (objV x s) ∧ ObjOk x ∧ ObjFit x ∧ ObjR w w.heap.size x s := by
  obtain ⟨l, rfl⟩ := okWide_struct Tryz.underlying30 hv
  have h' : Seen enc Tryz.prog w true 30 l := h
  obtain ⟨hl, hf⟩ := seen_struct Tryz.underlying30 h'
  match l, (show l.length = 8 from hl) with
  | [v0, v1, v2, v3, v4, v5, v6, v7], _ =>
    obtain ⟨A0, n0, c0, x0, e0, z0, k0, _, b0, r0, o0⟩ := seen_list cE_len (by omega) Tryz.underlying22 (by kernel_rfl) (fun vs => seen_instr) (hf 0 _ rfl)
    obtain ⟨A1, n1, c1, x1, e1, k1, _, b1, r1, o1⟩ := seen_ints Tryz.underlying23 Tryz.underlying5 (by kernel_rfl) (hf 1 _ rfl)
    obtain ⟨a2, e2, w2⟩ := seen_int Tryz.underlying24 (hf 2 _ rfl)
    obtain ⟨a3, e3, w3⟩ := seen_int Tryz.underlying24 (hf 3 _ rfl)
    obtain ⟨A4, n4, c4, x4, e4, z4, k4, _, b4, r4, o4⟩ := seen_list lE_len (by omega) Tryz.underlying25 (by kernel_rfl) (fun vs => seen_lab) (hf 4 _ rfl)
    obtain ⟨A5, n5, c5, x5, e5, z5, k5, _, b5, r5, o5⟩ := seen_list fE_len (by omega) Tryz.underlying26 (by kernel_rfl) (fun vs => seen_fix) (hf 5 _ rfl)
    obtain ⟨A6, n6, c6, x6, e6, k6, _, b6, r6, o6⟩ := seen_strs Tryz.underlying27 Tryz.underlying9 (by kernel_rfl) (hf 6 _ rfl)
    obtain ⟨A7, n7, c7, x7, e7, z7, k7, _, b7, r7, o7⟩ := seen_list eE_len (by omega) Tryz.underlying28 (by kernel_rfl) (fun vs => seen_ent) (hf 7 _ rfl)
    have z1 : x1.length = n1 := by simpa using r1.1
    have z6 : x6.length = n6 := by simpa using r6.1
    obtain rfl := sing (show [v0] = [Value.slice A0 n0 c0] from e0)
    obtain rfl := sing (show [v1] = [Value.slice A1 n1 c1] from e1)
    obtain rfl := sing (show [v2] = [Value.int .u32 a2] from e2)
    obtain rfl := sing (show [v3] = [Value.int .u32 a3] from e3)
    obtain rfl := sing (show [v4] = [Value.slice A4 n4 c4] from e4)
    obtain rfl := sing (show [v5] = [Value.slice A5 n5 c5] from e5)
    obtain rfl := sing (show [v6] = [Value.slice A6 n6 c6] from e6)
    obtain rfl := sing (show [v7] = [Value.slice A7 n7 c7] from e7)
    subst z0
    subst z1
    subst z4
    subst z5
    subst z6
    subst z7
    rw [show Tryz.prog.bytesOf 52 = 8 by kernel_rfl] at b0
    rw [show Tryz.prog.bytesOf 5 = 1 by kernel_rfl] at b1
    rw [show Tryz.prog.bytesOf 45 = 32 by kernel_rfl] at b4
    rw [show Tryz.prog.bytesOf 47 = 32 by kernel_rfl] at b5
    rw [show Tryz.prog.bytesOf 9 = 16 by kernel_rfl] at b6
    rw [show Tryz.prog.bytesOf 49 = 32 by kernel_rfl] at b7
    simp only [reachBytes] at b0 b1 b4 b5 b6 b7
    exact ⟨⟨x0, x1, a2, a3, x4, x5, x6, x7⟩, ⟨⟨A0, c0⟩, ⟨A1, c1⟩, ⟨A4, c4⟩, ⟨A5, c5⟩, ⟨A6, c6⟩, ⟨A7, c7⟩⟩, rfl,
      ⟨o0, fun b hb => u8_wf (o1 b hb), u32_wf w2, u32_wf w3, o4, o5, o6, o7, by dsimp only; omega, by dsimp only; omega, by dsimp only; omega, by dsimp only; omega, by dsimp only; omega, by dsimp only; omega⟩,
      ⟨by dsimp only; omega, by dsimp only; omega, by dsimp only; omega, by dsimp only; omega, by dsimp only; omega, by dsimp only; omega⟩,
      ⟨r0, r1, r4, r5, r6, r7, k0, k1, k4, k5, k6, k7⟩⟩
end
end Go.Proofs.YtnkfjileaonemaaGreatDoor
