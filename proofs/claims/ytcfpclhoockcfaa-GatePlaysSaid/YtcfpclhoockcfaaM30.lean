/-
  The world of GatePlays: Event asked.
-/
import Derived.Test.YtcfpclhoockcfaaM29
import Derived.Deep.Cut
import Derived.Deep.CutRange
import Derived.Deep.RegionLaw
import Derived.StillTailTactics
import Derived.Deep.RegionHeld3
namespace Go.Proofs.Ytcfpclhoockcfaa
open Go.RowKit Go.PlainAid Go.BigFrame
set_option linter.unusedVariables false
set_option linter.unusedSimpArgs false
set_option maxRecDepth 100000
/-- an event's box, whatever it holds, in memory newer than b -/
def EvBox (b : Nat) (W : World) (g : Nat) : Prop := (∃ cs : Array Value, Blk W g 84 cs ∧ cs.size = 4) ∧ b ≤ g
theorem EvBox.new (b : Nat) (W : World) (v0 v1 v2 v3 : Value) (h : b ≤ W.heap.size) : EvBox b (W.alloc (.cells #[v0, v1, v2, v3] 84)) W.heap.size := ⟨⟨_, Blk.new W _ _, rfl⟩, h⟩
theorem EvBox.lo {b g : Nat} {W : World} (h : EvBox b W g) : b ≤ g := h.2
theorem EvBox.drew {b g : Nat} {W : World} (h : EvBox b W g) : EvBox b W.drew g := h
theorem EvBox.below {b g : Nat} {W W' : World} (h : EvBox b W g) (hb : Below W.heap.size W W') : EvBox b W' g := by
  obtain ⟨⟨cs, h1, h2⟩, h3⟩ := h
  exact ⟨⟨cs, h1.below hb h1.lt, h2⟩, h3⟩
theorem EvBox.st {b g : Nat} {W : World} (h : EvBox b W g) {cs : Array Value} (hs : cs.size = 4) (h1 : cs.all (·.oneCell') = true) : (storeVar 84 ⟨g, 0, none⟩ (.agg cs)).run Try.prog W = .ok () (W.setRow g cs) := by
  obtain ⟨⟨c, h2, h3⟩, _⟩ := h
  exact run_storeVar_row (P := Try.prog) W g 84 84 _ cs h2 (by rw [hs]; kernel_rfl) (by rw [hs, h3]) h1
theorem EvBox.set {b g : Nat} {W : World} (h : EvBox b W g) {cs : Array Value} (hs : cs.size = 4) : Blk (W.setRow g cs) g 84 cs := by
  obtain ⟨⟨c, h2, h3⟩, _⟩ := h
  exact setRow_heap W g _ cs _ (0, 0) h2
theorem ev_own {W W' : World} {B B' n : Nat} {v : Value} {xs : List Value} (h : W.ownsRow B 39 1 v n xs) (hb : ∀ k, B ≤ k → k < W.heap.size → W'.heap[k]? = W.heap[k]?) (hB : B' ≤ B) : W'.ownsRow B' 39 1 v n xs := by
  refine ⟨h.1, ?_⟩
  rcases h.2 with h2 | ⟨g, cap, cur, hv, hg0, hg, rest⟩
  · exact .inl h2
  · exact .inr ⟨g, cap, cur, hv, by omega, (hb g hg0 (Array.getElem?_eq_some_iff.1 hg).1).trans hg, rest⟩
theorem ev_alloc {W1 W : World} (h : Below W1.heap.size W1 W) (o : Obj) : Below W1.heap.size W1 (W.alloc o) := h.alloc h.size o
theorem ev_alloc2 {a W : World} (h : Below a.heap.size a W) (o : Obj) : Below a.heap.size a (W.alloc o) := h.alloc h.size o
theorem ev_to {a W W' : World} (hb : Below W.heap.size W W') (h : Below a.heap.size a W) : Below a.heap.size a W' := h.trans (hb.mono h.size)
theorem ev_setRow {B g : Nat} {a w : World} (h : Below B a w) (hg : B ≤ g) (cs : Array Value) : Below B a (w.setRow g cs) :=
  ⟨h.os, h.tape, h.output, by have := h.size; simpa [World.setRow] using this, fun k hk => (setRow_other w g k cs (by omega)).trans (h.block k hk)⟩
/-- an append at a list of rows; all else is kept -/
theorem wpList_append_ownsFG {P : Program} (w : World) {w0 : World} {F : Nat → Prop} {ops : Array Oper} {rest : List Oper} {o : Oper} {a : Act} {Q : Exit → Act → World → Prop} (hgd : o.guard = none) (s x : Operand) (t : TypeId)
    (ho : o.op = .call { callee := .builtin .append, args := #[s, x], argTypes := #[t, t] })
    (B : Nat) (rs : List Ro) (k : Nat) (e : TypeId) (size : Nat) (v : Value) (n : Nat) (xs : List Value) (hr : rs[k]? = some ⟨e, size, v, n, xs⟩) (hO : OwnsF F w0 w B rs) (hB : B ≤ w.heap.size)
    (i : TypeInfo) (z : Value) (bytes : Nat) (ht : P.underlying t = some (.slice e)) (hi : P.info? e = some i) (hz : i.zero = some z)
    (hsize : i.size = size) (hby : i.bytes = bytes) (hzs : z.cells.size = size) (hsz : 0 < size)
    (hs : a.eval s = v)
    (B' : Nat) (A : Option Addr) (m c : Nat) (news : List Value) (hx : a.eval x = .slice A m c) (hn : Reads w B' size A m news) (h1 : ∀ u ∈ news, u.oneCell' = true)
    (h63 : n + m ≤ maxLen) (hbytes : (n + m) * bytes ≤ 140737488355328)
    (h : ∀ v' w', OwnsF F w0 w' B (rs.set k ⟨e, size, v', n + m, xs ++ news⟩) → Below B w w' → w.grownBy w' v.ownBlock → wpList P ops Q rest (a.put o.dst v') w') : wpList P ops Q (o :: rest) a w := by
  refine wpList_append_any w hgd s x t ho B e i z size bytes ht hi hz hsize hby hzs hsz v n xs hs (hO.at_ hr) B' A m c news hx hn h1 h63 hbytes hB ?_
  intro v' w' hown hg hat
  refine h v' w' (hO.turn hr hg hown ?_) ((Below.refl _ _).grown hg hB (fun j hj => (hO.own.lt_ (List.mem_of_getElem? hr) hj).1)) hg
  rcases hat with h2 | h2
  · exact .inl h2
  · exact .inr (.inr ⟨_, h2, Nat.le_refl _⟩)
theorem step_append_ownsFG {P : Program} (w : World) {w0 : World} {F : Nat → Prop} {ops : Array Oper} {o : Oper} {a : Act} {K : Act → World → Prop} {Q : Exit → Act → World → Prop} {E : Prop} (hgd : o.guard = none) (s x : Operand) (t : TypeId)
    (ho : o.op = .call { callee := .builtin .append, args := #[s, x], argTypes := #[t, t] })
    (B : Nat) (rs : List Ro) (k : Nat) (e : TypeId) (size : Nat) (v : Value) (n : Nat) (xs : List Value) (hr : rs[k]? = some ⟨e, size, v, n, xs⟩) (hO : OwnsF F w0 w B rs) (hB : B ≤ w.heap.size)
    (i : TypeInfo) (z : Value) (bytes : Nat) (ht : P.underlying t = some (.slice e)) (hi : P.info? e = some i) (hz : i.zero = some z)
    (hsize : i.size = size) (hby : i.bytes = bytes) (hzs : z.cells.size = size) (hsz : 0 < size)
    (hs : a.eval s = v)
    (B' : Nat) (A : Option Addr) (m c : Nat) (news : List Value) (hx : a.eval x = .slice A m c) (hn : Reads w B' size A m news) (h1 : ∀ u ∈ news, u.oneCell' = true)
    (h63 : n + m ≤ maxLen) (hbytes : (n + m) * bytes ≤ 140737488355328)
    (h : ∀ v' w', OwnsF F w0 w' B (rs.set k ⟨e, size, v', n + m, xs ++ news⟩) → Below B w w' → w.grownBy w' v.ownBlock → K (a.put o.dst v') w') :
    if Region.wanted o (yielded ops a.tmps) = true then Oper.wp P o a w K Q else E := by
  have hw : Region.wanted o (yielded ops a.tmps) = true := by simp [Region.wanted, hgd]
  rw [if_pos hw]
  refine wp_append_any w s x t ho B e i z size bytes ht hi hz hsize hby hzs hsz v n xs hs (hO.at_ hr) B' A m c news hx hn h1 h63 hbytes hB ?_
  intro v' w' hown hg hat
  refine h v' w' (hO.turn hr hg hown ?_) ((Below.refl _ _).grown hg hB (fun j hj => (hO.own.lt_ (List.mem_of_getElem? hr) hj).1)) hg
  rcases hat with h2 | h2
  · exact .inl h2
  · exact .inr (.inr ⟨_, h2, Nat.le_refl _⟩)
theorem ev_kept {W W' : World} {b g n : Nat} {v : Value} {xs : List Value} (h : W.ownsRow b 39 1 v n xs) (hg : W.grownBy W' (some g)) (hlt : g < b) : W'.ownsRow b 39 1 v n xs :=
  ev_own h (fun k h1 h2 => hg.block k h2 (fun e => by injection e with e; omega)) (Nat.le_refl _)
theorem ev_low {b : Nat} {W1 W : World} {P1 P2 P3 P4 P5 P6 P7 : Prop} (h : P1 ∧ P2 ∧ P3 ∧ P4 ∧ P5 ∧ P6 ∧ P7 ∧ Below b W1 W) : Below b W1 W := h.2.2.2.2.2.2.2
section
variable {F : Nat → Prop} {W W' : World} {B q0 k : Nat} {st : GW} {ex : List Ro}
set_option maxHeartbeats 4000000 in
theorem eventAsked_any (h : GInv F W B q0 k st ex) (i : Nat) (hi : i < st.gs.length) (hk : k ≤ 5000000000000) (y : AskV) (hy : AskOk W B y) :
    Calls Try.prog 20 #[.pointer (some ⟨q0, 0, none⟩), .int .i64 i, .agg (askC y)] W fun e W' => e = .returned (.bool true) ∧ ∃ st', GInv F W' B q0 (k + 1) st' ex ∧ Below B W W' := by
  obtain ⟨x, hx⟩ : ∃ x, st.gs[i]? = some x := ⟨_, List.getElem?_eq_getElem hi⟩
  have hxm := List.mem_of_getElem? hx
  obtain ⟨W1, hW1⟩ : ∃ W1, W1 = W.alloc (.cells (askC y) 45) := ⟨_, rfl⟩
  have HW1 := hide_ (show Below W.heap.size W W1 by rw [hW1]; exact (Below.refl _ _).alloc (Nat.le_refl _) _)
  have HK0 := hide_ (show Blk W1 W.heap.size 45 (askC y) by rw [hW1]; exact Blk.new W _ _)
  have HI1 := hide_ (h.below HW1.out)
  have HY1 := hide_ (hy.below (HW1.out.mono h.base))
  have HBX := hide_ (fun W2 (hb : Below W1.heap.size W1 W2) => show (W2.cell? ⟨W.heap.size, 3, none⟩ = some (.int .u32 y.a) ∧ W2.cell? ⟨W.heap.size, 4, none⟩ = some (.int .u32 y.b) ∧ W2.cell? ⟨W.heap.size, 5, none⟩ = some (.slice y.LA y.ln y.lc) ∧ W2.cell? ⟨W.heap.size, 6, none⟩ = some (.int .u32 y.v) ∧ W2.cell? ⟨W.heap.size, 7, none⟩ = some (.slice y.WA y.wn y.wc)) ∧ W.heap.size < W2.heap.size from
    have k1 := HK0.out.below hb HK0.out.lt
    ⟨⟨k1.cell 3, k1.cell 4, k1.cell 5, k1.cell 6, k1.cell 7⟩, k1.lt⟩)
  have HGT := hide_ (fun W2 (h2 : GInv F W2 B q0 k st ex) => h2.gate hx)
  have hil : (i : Int) < (st.gs.length : Int) := by omega
  obtain ⟨m, hm⟩ : ∃ m, m = cntN x.l y.a := ⟨_, rfl⟩
  obtain ⟨ok, hok⟩ : ∃ b, b = (findN x.l y.a).2 := ⟨_, rfl⟩
  obtain ⟨ft, hft⟩ : ∃ b, b = fitsN y.wn y.ws y.wn := ⟨_, rfl⟩
  obtain ⟨ec, hec⟩ : ∃ z, z = evCode ok m y.ln ft := ⟨_, rfl⟩
  have HFF := hide_ (show (findN x.l y.a).1 = ((cntN x.l y.a : Nat) : Int) ∧ cntN x.l y.a ≤ 15 by
    obtain ⟨D, hD, m, n, _, _, _, hm, _⟩ := (h.gok x hxm).at_
    obtain ⟨c, hc, _⟩ := val_ex hm y.a (u32_lit hy.a.1 hy.a.2)
    obtain ⟨h1, _, h3⟩ := find_facts (h.gok x hxm).ok hD hc
    exact ⟨by rw [h1], h3⟩)
  have HRG2 := hide_ (fun W2 (h2 : GInv F W2 B q0 k st ex) => show Calls Try.prog 18 #[.slice x.A x.l.length x.c, .int .u32 y.a] W2 fun e w' => e = .returned (.tuple #[.int .i64 (m : Nat), .bool ok]) ∧ w' = W2 by
    rw [hm, hok, ← HFF.out.1]; exact rGranted_any x.A x.l.length x.c W2.heap.size x.l y.a W2 (h2.gok x hxm).rd (Nat.le_refl _) (by have := (h2.gok x hxm).ok.few; omega))
  have HEV := hide_ (fun W2 (h2 : GInv F W2 B q0 k st ex) (A A2 : Option Addr) (c c2 : Nat) (ws : Nat → Wr) (hr : Reads W2 W2.heap.size 1 A y.ln (u32s y.os)) (hw : WReads W2 W2.heap.size A2 y.wn ws) (he : fitsN y.wn ws y.wn = ft) =>
    show Calls Try.prog 35 #[.pointer (some ⟨x.q, 0, none⟩), .int .u32 y.b, .int .u32 y.a, .slice A y.ln c, .agg #[.int .u32 y.v, .slice A2 y.wn c2]] W2 fun e w' => ∃ u0 u1 u3 A' n' c', e = .returned (.tuple #[.agg (evCells u0 u1 u3 A' n' c'), .int .i64 ec]) ∧ Below W2.heap.size W2 w' ∧
      (ec = 0 → u0 = y.b ∧ u1 = y.a ∧ u3 = y.v ∧ n' = y.ln ∧ w'.ownsRow W2.heap.size 39 1 (.slice A' n' c') n' (u32s y.os)) ∧ (ec ≠ 0 → u0 = 0 ∧ u1 = 0 ∧ u3 = 0 ∧ n' = 0) by
    have h9 := h2.event hx y.b y.a y.v A A2 y.ln c y.wn c2 y.os ws (u32_lit hy.a.1 hy.a.2) hr hy.ln hw (by have := hy.wn; unfold maxLen; omega)
    rw [he, ← hm, ← hok, ← hec] at h9
    exact h9)
  have HBW := hide_ h.base
  have HWB := hide_ (fun j (hj : st.wv.ownBlock = some j) => (h.own.own.lt_ (List.mem_of_getElem? (show (rowsG q0 st ex)[4]? = some _ from rfl)) hj).2)
  have HQ0 := hide_ (h.own.base (i := 0) rfl).2
  have HEC := hide_ hec
  have HFT := hide_ hft
  clear h hx hxm HFF hm hok HK0 hec hft hy
  unfold askC at hW1 ⊢
  obtain ⟨bg, cg, br, cr, eg, er, ⟨f0, f1, f2, f3⟩, ⟨z0, z1, z2⟩, _⟩ := HGT.out W1 HI1.out
  obtain ⟨⟨x3, x4, x5, x6, x7⟩, z3⟩ := HBX.out W1 (Below.refl _ _)
  obtain ⟨gn, hgn⟩ : ∃ n, n = st.gs.length := ⟨_, rfl⟩
  rw [← hgn] at f0 f1 hil
  have HGN := hide_ hgn
  clear eg er hgn hi
  go_enter Try.func20, Try.ntmps20
  go_upto_region 1 with (fail)
  rw [← hW1]
  clear hW1
  go_big_quiet ((go_at_call 18; exact Calls.quiet_of_same (HRG2.out _ (HI1.out.below (below_draws2 (Below.refl _ _) _)))))
  obtain ⟨W2, hW2⟩ : ∃ W2, W2 = W1.drewN nq := ⟨_, rfl⟩
  have HB2 := hide_ (show Below W1.heap.size W1 W2 by rw [hW2]; exact below_draws2 (Below.refl _ _) nq)
  rw [← hW2]
  clear hW2 f0 f1 f2 f3 z0 z1 z2 x3 x4 x5 x6 x7 z3 HRG2
  obtain ⟨⟨x3, x4, x5, x6, x7⟩, z3⟩ := HBX.out W2 HB2.out
  have HYB := hide_ (fun W' (hb : Below W1.heap.size W1 W') => HY1.out.below (hb.mono HI1.out.base))
  have HBZ := hide_ (fun W' (hb : Below W1.heap.size W1 W') => Nat.le_trans HI1.out.base hb.size)
  have HLW := hide_ (LentWords_any y.LA y.ln y.lc y.os B W2 (HYB.out W2 HB2.out).ls (HBZ.out W2 HB2.out) HY1.out.ln)
  go_wp2_with fail
  refine HLW.out.mono ?_
  rintro e W3 ⟨vl, rfl, hol, hb3⟩
  obtain ⟨gl, cl, rfl⟩ := ownsRow_some hol (by omega)
  have HOL := hide_ hol
  have HB3 := hide_ (HB2.out.trans (hb3.mono HB2.out.size))
  have HZ3 := hide_ hb3.size
  have hgl3 : gl < W3.heap.size := (hol.lt gl rfl).2
  have hcl : y.ln + 64 ≤ cl := cap_of hol
  have HGL3 := hide_ hgl3
  have HGL2 := hide_ (hol.lt gl rfl).1
  have HCL := hide_ hcl
  clear hol hb3 HLW x3 x4 x5 x6 x7 z3 hgl3 hcl
  obtain ⟨⟨x3, x4, x5, x6, x7⟩, z3⟩ := HBX.out W3 HB3.out
  have HLR := hide_ (LentReply_any y.v y.WA y.wn y.wc y.ws y.zs W3 ((HYB.out W3 HB3.out).wr.more (HBZ.out W3 HB3.out)) HY1.out.wn (fun j hj => ⟨((HYB.out W3 HB3.out).wz j hj).2.2.1.more (HBZ.out W3 HB3.out), ((HYB.out W3 HB3.out).wz j hj).2.2.2⟩))
  go_wp2_with fail
  refine HLR.out.mono ?_
  rintro e W4 ⟨vs, Af, cf, Aw, cw, rfl, hcw, hO4, hb4⟩
  obtain ⟨W5, hW5⟩ : ∃ W5, W5 = W4.alloc (.cells #[.int .u32 y.v, .slice Aw y.wn cw, .slice Af y.wn cf] 81) := ⟨_, rfl⟩
  obtain ⟨gr, hgr⟩ : ∃ g, g = W4.heap.size := ⟨_, rfl⟩
  have HKR := hide_ (show Blk W5 gr 81 #[.int .u32 y.v, .slice Aw y.wn cw, .slice Af y.wn cf] by rw [hW5, hgr]; exact Blk.new W4 _ _)
  have HO5 := hide_ (show Owns W5 W3.heap.size _ by rw [hW5]; exact hO4.alloc _)
  have HB45 := hide_ (show Below W3.heap.size W3 W5 by rw [hW5]; exact hb4.alloc hb4.size _)
  have HB5 := hide_ (HB3.out.trans (HB45.out.mono HB3.out.size))
  have HCW := hide_ hcw
  clear hO4 hb4 HLR x3 x4 x5 x6 x7 z3 hcw
  go_upto_region 4 with (fail)
  rw [← hW5, ← hgr]
  clear hW5 hgr
  obtain ⟨gwv, cwv, ewv⟩ := ownsRow_some (HO5.out.at_ (i := 1) rfl) (show 0 < y.wn + 4 by omega)
  injection ewv with e1 _ e3
  subst e1 e3
  have HWR := hide_ (show WReads W5 W5.heap.size (some ⟨gwv, 0, none⟩) y.wn (wsL y.ws vs) from lent_wreads (ex := []) (by rw [List.append_nil]; exact HO5.out))
  have HRL := hide_ (show Reads W5 W5.heap.size 1 (some ⟨gl, 0, none⟩) (y.ln + 64) (u32s y.os ++ u32s (marksW 64)) from by
    have h1 := (Reads.of_own HOL.out).below HB45.out
    have h2 := h1.more HB45.out.size
    have e : u32s (y.os ++ marksW 64) = u32s y.os ++ u32s (marksW 64) := by simp [u32s]
    rw [e] at h2
    exact h2)
  have HOSL := hide_ (show (u32s y.os).length = y.ln from by simpa [u32s] using (HYB.out W2 HB2.out).ls.1)
  have HEVC := hide_ (fun W' (hb : Below W5.heap.size W5 W') => show Calls Try.prog 35 #[.pointer (some ⟨x.q, 0, none⟩), .int .u32 y.b, .int .u32 y.a, .slice (some ⟨gl, 0, none⟩) y.ln cl, .agg #[.int .u32 y.v, .slice (some ⟨gwv, 0, none⟩) y.wn cw]] W' fun e w' =>
      ∃ u0 u1 u3 A' n' c', e = .returned (.tuple #[.agg #[.int .u32 u0, .int .u32 u1, .slice A' n' c', .int .u32 u3], .int .i64 ec]) ∧ Below W'.heap.size W' w' ∧ (ec = 0 → u0 = y.b ∧ u1 = y.a ∧ u3 = y.v ∧ n' = y.ln ∧ w'.ownsRow W'.heap.size 39 1 (.slice A' n' c') n' (u32s y.os)) ∧ (ec ≠ 0 → u0 = 0 ∧ u1 = 0 ∧ u3 = 0 ∧ n' = 0) from
    HEV.out W' (HI1.out.below (HB5.out.trans (hb.mono HB5.out.size))) (some ⟨gl, 0, none⟩) (some ⟨gwv, 0, none⟩) cl cw (wsL y.ws vs)
      (((HRL.out.pre HOSL.out).below hb).more hb.size) ((HWR.out.below hb).more hb.size) (by rw [fitsN_lent, ← HFT.out]))
  obtain ⟨bg, cg, br, cr, eg, er, ⟨f0, _, f2, _⟩, ⟨z0, z1, z2⟩, _⟩ := HGT.out W5 (HI1.out.below HB5.out)
  obtain ⟨⟨x3, x4, x5, _, _⟩, z3⟩ := HBX.out W5 HB5.out
  rw [← HGN.out] at f0
  have k0 := HKR.out.cell 0
  have k1 := HKR.out.cell 1
  have kz := HKR.out.lt
  have hlc : y.ln ≤ cl := by have := HCL.out; omega
  have HKP := hide_ (fun W' (hb : Below W5.heap.size W5 W') =>
    show W'.cell? ⟨q0, 0, none⟩ = some (.slice (some ⟨bg, 0, none⟩) gn cg) ∧ W'.cell? ⟨bg, i, none⟩ = some (.pointer (some ⟨x.q, 0, none⟩)) ∧ W'.cell? ⟨W.heap.size, 3, none⟩ = some (.int .u32 y.a) ∧ W'.cell? ⟨W.heap.size, 4, none⟩ = some (.int .u32 y.b) ∧ W'.cell? ⟨W.heap.size, 5, none⟩ = some (.slice y.LA y.ln y.lc) ∧ W'.cell? ⟨gr, 0, none⟩ = some (.int .u32 y.v) ∧ W'.cell? ⟨gr, 1, none⟩ = some (.slice (some ⟨gwv, 0, none⟩) y.wn cw) ∧ Below W5.heap.size W5 W' from
    ⟨(hb.cell (p := ⟨q0, 0, none⟩) z0).trans f0, (hb.cell (p := ⟨bg, i, none⟩) z1).trans f2, (hb.cell (p := ⟨W.heap.size, 3, none⟩) z3).trans x3, (hb.cell (p := ⟨W.heap.size, 4, none⟩) z3).trans x4, (hb.cell (p := ⟨W.heap.size, 5, none⟩) z3).trans x5, (hb.cell (p := ⟨gr, 0, none⟩) kz).trans k0, (hb.cell (p := ⟨gr, 1, none⟩) kz).trans k1, hb⟩)
  clear eg er f0 f2 z0 z1 z2 x3 x4 x5 z3 k0 k1 kz HEV HWR HRL
  go_cut [11, 12] from 33 to 54 (fun p e wx => ∃ gx u0 u1 u3 A' n' c', p = .pointer (some ⟨gx, 0, none⟩) ∧ e = .int .i64 ec ∧ Hid (Below W5.heap.size W5 wx) ∧ Hid (Blk wx gx 84 #[.int .u32 u0, .int .u32 u1, .slice A' n' c', .int .u32 u3]) ∧ Hid (W5.heap.size ≤ gx) ∧ Hid (ec = 0 → u0 = y.b ∧ u1 = y.a ∧ u3 = y.v ∧ n' = y.ln ∧ wx.ownsRow W5.heap.size 39 1 (.slice A' n' c') n' (u32s y.os)) ∧ Hid (ec ≠ 0 → u0 = 0 ∧ u1 = 0 ∧ u3 = 0 ∧ n' = 0))
  case first =>
    go_region_held3 (fun W' => W'.cell? ⟨q0, 0, none⟩ = some (.slice (some ⟨bg, 0, none⟩) gn cg) ∧ W'.cell? ⟨bg, i, none⟩ = some (.pointer (some ⟨x.q, 0, none⟩)) ∧ W'.cell? ⟨W.heap.size, 3, none⟩ = some (.int .u32 y.a) ∧ W'.cell? ⟨W.heap.size, 4, none⟩ = some (.int .u32 y.b) ∧ W'.cell? ⟨W.heap.size, 5, none⟩ = some (.slice y.LA y.ln y.lc) ∧ W'.cell? ⟨gr, 0, none⟩ = some (.int .u32 y.v) ∧ W'.cell? ⟨gr, 1, none⟩ = some (.slice (some ⟨gwv, 0, none⟩) y.wn cw) ∧ Below W5.heap.size W5 W')
      (first | (with_reducible exact HKP.out _ (Below.refl _ _).drew) | (with_reducible exact HKP.out _ HB8.out) | (with_reducible exact HKP.out _ (ev_alloc2 HB8.out _)) | (with_reducible exact HKP.out _ (ev_alloc2 (Below.refl _ _).drew _)) | (with_reducible exact HKP.out _ (ev_setRow HB8.out (EvBox.lo HBX8.out) _)))
      (first
        | (go_at_call 35; refine (HEVC.out _ (by first | exact (Below.refl _ _).drew | exact ev_alloc2 (Below.refl _ _).drew _ | trace_state)).mono ?_; rintro e w8 ⟨u0, u1, u3, A', n', c', rfl, hb8, hg8, hn8⟩; have HB8 := hide_ (show Below W5.heap.size W5 w8 from ev_to hb8 (by first | exact (Below.refl _ _).drew | exact ev_alloc2 (Below.refl _ _).drew _)); (first | (with_reducible have HBX8 := hide_ (EvBox.below (EvBox.drew (EvBox.new W5.heap.size W5 _ _ _ _ (Nat.le_refl _))) hb8)) | skip); clear hb8)
        | (have HST := EvBox.st (cs := #[.int .u32 u0, .int .u32 u1, .slice A' n' c', .int .u32 u3]) HBX8.out rfl (by simp [Value.oneCell']); simp [go_sem] at HST; rw [HST]; go_simp))
    all_goals
      go_wp2
      go_meet
      first
        | exact ⟨_, u0, u1, u3, A', n', c', rfl, rfl, hide_ (ev_alloc2 HB8.out _), hide_ (Blk.new _ _ _), hide_ HB8.out.size, hide_ (fun h => ⟨(hg8 h).1, (hg8 h).2.1, (hg8 h).2.2.1, (hg8 h).2.2.2.1, ev_own (hg8 h).2.2.2.2 (fun k h1 h2 => ((Below.refl w8.heap.size w8).alloc (Nat.le_refl _) _).block k h2) (Nat.le_refl _)⟩), hide_ hn8⟩
        | exact ⟨_, u0, u1, u3, A', n', c', rfl, rfl, hide_ (ev_setRow HB8.out (Nat.le_refl _) _), hide_ (EvBox.set HBX8.out rfl), hide_ (Nat.le_refl _), hide_ (fun h => ⟨(hg8 h).1, (hg8 h).2.1, (hg8 h).2.2.1, (hg8 h).2.2.2.1, ev_own (hg8 h).2.2.2.2 (fun k h1 h2 => setRow_other w8 W5.heap.size k _ (by have h3 := Nat.le_trans (Nat.le_of_eq (World.size_alloc W5 _).symm) h1; omega)) (Nat.le_trans (Nat.le_succ _) (Nat.le_of_eq (World.size_alloc W5 _).symm))⟩), hide_ hn8⟩
        | exact (0 : Nat)
  case rest =>
    obtain ⟨gx, u0, u1, u3, A', n', c', rfl, rfl, HX5, HKX, HGX, HG0, HN0⟩ := hcut
    have HBx := hide_ (HB5.out.trans (HX5.out.mono HB5.out.size))
    obtain ⟨⟨x3, x4, x5, x6, x7⟩, z3⟩ := HBX.out wc HBx.out
    have HB4x := hide_ (HB45.out.trans (HX5.out.mono HB45.out.size))
    have HKW := hide_ (KeptWords_any (some ⟨gl, 0, none⟩) y.LA (y.ln + 64) cl y.ln y.lc (y.os ++ marksW 64) y.os wc.heap.size wc (((Reads.of_own HOL.out).below HB4x.out).more HB4x.out.size) ((HYB.out wc HBx.out).ls.more (HBZ.out wc HBx.out)) (by have := HY1.out.ln; unfold maxLen; omega) (by have := HY1.out.ln; unfold maxLen; omega))
    go_upto_region 5 with (fail)
    go_wp2_with fail
    refine HKW.out.mono ?_
    rintro e w6 ⟨rfl, nq6, rfl⟩
    simp only [decide_true]
    obtain ⟨W6, hW6⟩ : ∃ W6, W6 = wc.drewN nq6 := ⟨_, rfl⟩
    have HB6 := hide_ (show Below wc.heap.size wc W6 by rw [hW6]; exact below_draws2 (Below.refl _ _) nq6)
    rw [← hW6]
    clear hW6 HKW x3 x4 x5 x6 x7 z3
    have HX6 := hide_ (HX5.out.trans (HB6.out.mono HX5.out.size))
    have HBX6 := hide_ (HB5.out.trans (HX6.out.mono HB5.out.size))
    obtain ⟨⟨x3, x4, x5, x6, x7⟩, z3⟩ := HBX.out W6 HBX6.out
    have k0 := (HKR.out.below HX6.out HKR.out.lt).cell 0
    have k1 := (HKR.out.below HX6.out HKR.out.lt).cell 1
    have k2 := (HKR.out.below HX6.out HKR.out.lt).cell 2
    have kz := (HKR.out.below HX6.out HKR.out.lt).lt
    have HKY := hide_ (KeptReply_any y.v y.WA y.wn y.wc y.ws y.zs vs Af cf (some ⟨gwv, 0, none⟩) cw W3.heap.size B W6 (HO5.out.below HX6.out) (Nat.le_trans HB45.out.size HX6.out.size) (HYB.out W6 HBX6.out).wr (HBZ.out W6 HBX6.out) HY1.out.wn HCW.out (fun j hj => ((HYB.out W6 HBX6.out).wz j hj).2.2))
    go_wp2_with fail
    refine HKY.out.mono ?_
    rintro e W7 ⟨rfl, hb7⟩
    have HX7 := hide_ (HX6.out.trans (hb7.mono HX6.out.size))
    have HB7 := hide_ (HB5.out.trans (HX7.out.mono HB5.out.size))
    have HBx7 := hide_ (HB6.out.trans (hb7.mono HB6.out.size))
    have HOV := hide_ (OverWords_any gl (y.ln + 64) cl W2.heap.size (y.os ++ marksW 64) W7 (by have := HY1.out.ln; omega) (by simpa [u32s] using HOL.out.1) (Owns.below (w := W3) ⟨fun r hr => by rw [List.mem_singleton.1 hr]; exact HOL.out, List.pairwise_singleton _ _⟩ (HB45.out.trans (HX7.out.mono HB45.out.size))) (Nat.le_trans HZ3.out (HB45.out.trans (HX7.out.mono HB45.out.size)).size))
    clear HKY hb7 k0 k1 k2 kz x3 x4 x5 x6 x7 z3
    go_upto_region 7 with (fail)
    go_wp2_with fail
    refine HOV.out.mono ?_
    rintro e W8 ⟨rfl, hb8, hg8⟩
    have HB8 := hide_ (HB7.out.trans (hb8.mono HB2.out.size))
    have HGK := hide_ (fun k (h1 : W5.heap.size ≤ k) (h2 : k < wc.heap.size) => show W8.heap[k]? = wc.heap[k]? from
      (hg8.block k (Nat.lt_of_lt_of_le h2 HBx7.out.size) (fun e => by injection e with e; have := HGL3.out; have := HB45.out.size; omega)).trans (HBx7.out.block k h2))
    have HZ8 := hide_ (Nat.le_trans HBx7.out.size hb8.size)
    have HT := hide_ (fun w9 (hb : Below W8.heap.size W8 w9) => show GInv F w9 B q0 k st ex ∧ Below B W w9 ∧ Below W1.heap.size W1 w9 ∧ Blk w9 gx 84 #[.int .u32 u0, .int .u32 u1, .slice A' n' c', .int .u32 u3] from
      have h1 := HB8.out.trans (hb.mono HB8.out.size)
      ⟨HI1.out.below h1, (HW1.out.mono HBW.out).trans (h1.mono HI1.out.base), h1, (hb.block gx (Nat.lt_of_lt_of_le HKX.out.lt HZ8.out)).trans ((HGK.out gx HGX.out HKX.out.lt).trans HKX.out)⟩)
    have HRW := hide_ (fun (h0 : ec = 0) w9 (hb : Below W8.heap.size W8 w9) => show w9.ownsRow W5.heap.size 39 1 (.slice A' n' c') n' (u32s y.os) from
      ev_own (HG0.out h0).2.2.2.2 (fun k h1 h2 => (hb.block k (Nat.lt_of_lt_of_le h2 HZ8.out)).trans (HGK.out k h1 h2)) (Nat.le_refl _))
    have hcase : (ok = false ∧ ec = 161) ∨ (ok = true ∧ m ≠ y.ln ∧ ec = 162) ∨ (ok = true ∧ m = y.ln ∧ ft = false ∧ ec = 5) ∨ (ok = true ∧ m = y.ln ∧ ft = true ∧ ec = 0) := by
      have h := HEC.out
      unfold evCode at h
      cases ok with
      | false => exact .inl ⟨rfl, by simpa using h⟩
      | true =>
        rw [if_pos rfl] at h
        by_cases hm : y.ln = m
        · rw [if_pos hm] at h
          cases ft with
          | false => exact .inr (.inr (.inl ⟨rfl, hm.symm, rfl, by simpa using h⟩))
          | true => exact .inr (.inr (.inr ⟨rfl, hm.symm, rfl, by simpa using h⟩))
        · rw [if_neg hm] at h
          exact .inr (.inl ⟨rfl, fun e => hm e.symm, h⟩)
    obtain ⟨⟨x3, x4, x5, x6, x7⟩, z3⟩ := HBX.out W8 HB8.out
    have HRF := hide_ (show Calls Try.prog 39 #[.agg #[.int .u32 y.v, .slice y.WA y.wn y.wc]] W8 fun e w' => e = .returned (.bool ft) ∧ Below W8.heap.size W8 w' from by
      rw [HFT.out]; exact rFits_any y.v y.WA y.wn y.wc B y.ws W8 (HYB.out W8 HB8.out).wr (HBZ.out W8 HB8.out) (by have := HY1.out.wn; unfold maxLen; omega))
    clear hb8 hg8 HOV
    rcases hcase with ⟨rfl, rfl⟩ | ⟨rfl, hm, rfl⟩ | ⟨rfl, hm, rfl, rfl⟩ | ⟨rfl, hm, rfl, rfl⟩
    · clear x6 x7 HRF
      obtain ⟨HGI, HBW9, HB19, hkx⟩ := HT.out W8 (Below.refl _ _)
      obtain ⟨e0, e1, e3, en⟩ := HN0.out (by decide)
      subst e0 e1 e3 en
      have kx0 := hkx.cell 0
      have kx1 := hkx.cell 1
      have kx2 := hkx.cell 2
      have kx3 := hkx.cell 3
      have kxl := hkx.lt
      have HHGI := hide_ HGI
      have HHBW := hide_ HBW9
      have hs := SameEvent_eq 0 0 0 A' none 0 c' 0 [] W8 ⟨rfl, fun h => absurd h (by omega)⟩ ⟨rfl, fun h => absurd h (by omega)⟩ (by omega)
      unfold evCells at hs
      have HSE := hide_ hs
      clear hs HGI HBW9 HB19 hkx
      go_upto_region 18 with (fail)
      go_wp2_with fail
      refine HSE.out.mono ?_
      rintro e w10 ⟨rfl, hb10⟩
      have HF := hide_ ((HHGI.out.below hb10).step)
      have HBF := hide_ (HHBW.out.trans (hb10.mono HHGI.out.base))
      go_wp2_with fail
      exact bodyPost_ret (v := .bool true) (by simp [results, Try.results20, go_sem]) rfl ⟨rfl, _, HF.out, HBF.out⟩
    · clear x6 x7 HRF
      have dm : ((m : Int) == (y.ln : Int)) = false := by rw [beq_eq_false_iff_ne]; omega
      obtain ⟨HGI, HBW9, HB19, hkx⟩ := HT.out W8 (Below.refl _ _)
      obtain ⟨e0, e1, e3, en⟩ := HN0.out (by decide)
      subst e0 e1 e3 en
      have kx0 := hkx.cell 0
      have kx1 := hkx.cell 1
      have kx2 := hkx.cell 2
      have kx3 := hkx.cell 3
      have kxl := hkx.lt
      have HHGI := hide_ HGI
      have HHBW := hide_ HBW9
      have hs := SameEvent_eq 0 0 0 A' none 0 c' 0 [] W8 ⟨rfl, fun h => absurd h (by omega)⟩ ⟨rfl, fun h => absurd h (by omega)⟩ (by omega)
      unfold evCells at hs
      have HSE := hide_ hs
      clear hs HGI HBW9 HB19 hkx
      go_upto_region 18 with (fail)
      go_wp2_with fail
      refine HSE.out.mono ?_
      rintro e w10 ⟨rfl, hb10⟩
      have HF := hide_ ((HHGI.out.below hb10).step)
      have HBF := hide_ (HHBW.out.trans (hb10.mono HHGI.out.base))
      go_wp2_with fail
      exact bodyPost_ret (v := .bool true) (by simp [results, Try.results20, go_sem]) rfl ⟨rfl, _, HF.out, HBF.out⟩
    · subst hm
      go_upto_region 13 with (fail)
      go_wp2_with fail
      refine HRF.out.mono ?_
      rintro e W9 ⟨rfl, hb9⟩
      have HB9 := hide_ hb9
      clear x3 x4 x5 x6 x7 z3 hb9 HRF
      obtain ⟨HGI, HBW9, HB19, hkx⟩ := HT.out W9 (HB9.out)
      obtain ⟨e0, e1, e3, en⟩ := HN0.out (by decide)
      subst e0 e1 e3 en
      have kx0 := hkx.cell 0
      have kx1 := hkx.cell 1
      have kx2 := hkx.cell 2
      have kx3 := hkx.cell 3
      have kxl := hkx.lt
      have HHGI := hide_ HGI
      have HHBW := hide_ HBW9
      have hs := SameEvent_eq 0 0 0 A' none 0 c' 0 [] W9 ⟨rfl, fun h => absurd h (by omega)⟩ ⟨rfl, fun h => absurd h (by omega)⟩ (by omega)
      unfold evCells at hs
      have HSE := hide_ hs
      clear hs HGI HBW9 HB19 hkx
      go_upto_region 18 with (fail)
      go_wp2_with fail
      refine HSE.out.mono ?_
      rintro e w10 ⟨rfl, hb10⟩
      have HF := hide_ ((HHGI.out.below hb10).step)
      have HBF := hide_ (HHBW.out.trans (hb10.mono HHGI.out.base))
      go_wp2_with fail
      exact bodyPost_ret (v := .bool true) (by simp [results, Try.results20, go_sem]) rfl ⟨rfl, _, HF.out, HBF.out⟩
    · subst hm
      go_upto_region 13 with (fail)
      go_wp2_with fail
      refine HRF.out.mono ?_
      rintro e W9 ⟨rfl, hb9⟩
      have HB9 := hide_ hb9
      clear x3 x4 x5 x6 x7 z3 hb9 HRF
      obtain ⟨HGI, HBW9, HB19, hkx⟩ := HT.out W9 HB9.out
      obtain ⟨e0, e1, e3, en, _⟩ := HG0.out (by first | trivial | rfl)
      subst e0 e1 e3 en
      have HOS := hide_ (show y.os.length = y.ln from by simpa [u32s] using (HYB.out W9 HB19).ls.1)
      have HROW := hide_ (show W9.ownsRow W1.heap.size 39 1 (.slice A' y.ln c') y.ln (u32s y.os) from ev_own (HRW.out (by first | trivial | rfl) W9 HB9.out) (fun _ _ _ => rfl) HB5.out.size)
      have HP9 := hide_ ((HI1.out.own.push HB19 (r := wordR ⟨A', c', y.os⟩) (by show W9.ownsRow W1.heap.size 39 1 (.slice A' y.os.length c') y.os.length (u32s y.os); rw [HOS.out]; exact HROW.out) HI1.out.base).rebase)
      have HI9 := hide_ HGI
      have HB9w := hide_ HB19
      have HKX9 := hide_ hkx
      have HRL9 := hide_ (show Reads W9 W9.heap.size 1 A' y.ln (u32s y.os) from Reads.of_own HROW.out)
      clear HGI HBW9 HB19 hkx HRW HG0 HN0
      obtain ⟨At, ct, etv, _, _⟩ := ownsRow_slice (HP9.out.at_ (i := 4) rfl)
      have HTV := hide_ (show st.wv = .slice At st.words.length ct from etv)
      have h5 : W9.cell? ⟨q0, 5, none⟩ = some (.slice At st.words.length ct) := by rw [← HTV.out]; exact HP9.out.cell (i := 0) (j := 5) rfl rfl
      have HR3 := hide_ (show (rowsG q0 st ex ++ [wordR ⟨A', c', y.os⟩])[4]? = some ⟨40, 1, .slice At st.words.length ct, st.words.length, st.words.map fun x => .slice x.A x.xs.length x.c⟩ by rw [← HTV.out]; rfl)
      have HTL := hide_ HI9.out.wl
      have HBS := hide_ HI9.out.base
      have zq : q0 < W9.heap.size := (HP9.out.base (i := 0) rfl).2
      have kx2 := HKX9.out.cell 2
      have kxl := HKX9.out.lt
      obtain ⟨i0, hi0, hz0, hz1, hz2⟩ := info_parts apk_infoB
      clear etv
      go_upto_region 19 with (fail)
      have HKA := hide_ (fun o k (h2 : k < W9.heap.size) => show (W9.alloc o).heap[k]? = W9.heap[k]? from ((Below.refl W9.heap.size W9).alloc (Nat.le_refl _) o).block k h2)
      go_region_law (
        (refine step_append_ownsFG _ (by rfl) (.tmp 92) (.tmp 95) 35 (by rfl) B _ 4 40 1 (.slice At st.words.length ct) st.words.length (st.words.map fun x => .slice x.A x.xs.length x.c) HR3.out (by first | exact (HP9.out.alloc _).drew | exact (HP9.out.drew.alloc _)) (Nat.le_trans HBS.out (by first | exact (((Below.refl W9.heap.size W9).alloc (Nat.le_refl _) _).drew).size | exact ((((Below.refl W9.heap.size W9).drew).alloc (Nat.le_refl _) _)).size)) i0 _ 24 Try.underlying35 hi0 hz0 hz1 hz2 rfl (by omega) (by rfl) _ _ 1 1 [.slice A' y.ln c'] (by rfl) (reads_new W9 40 1 1 [.slice A' y.ln c'] rfl) (by simp [Value.oneCell']) (by have := HTL.out; simp only [maxLen]; omega) (by have := HTL.out; omega) ?_;
         intro v2 w10 hO2 hb2 hg2;
         have HO2 := hide_ hO2;
         have HB10 := hide_ (show Below B W9 w10 from by first | exact ((Below.alloc (Below.refl _ _) HBS.out _).drew).trans hb2 | exact ((Below.alloc (Below.refl _ _).drew HBS.out _)).trans hb2);
         have HK10 := hide_ (fun k (h1 : W.heap.size ≤ k) (h2 : k < W9.heap.size) => show w10.heap[k]? = W9.heap[k]? from
           (hg2.block k (Nat.lt_of_lt_of_le h2 (by first | exact (((Below.refl W9.heap.size W9).alloc (Nat.le_refl _) _).drew).size | exact ((((Below.refl W9.heap.size W9).drew).alloc (Nat.le_refl _) _)).size)) (fun e => by have := HWB.out k (by rw [HTV.out]; exact e.symm); omega)).trans (HKA.out _ k h2));
         have hv2 := HO2.out.at_ (i := 4) rfl;
         dsimp only at hv2;
         obtain ⟨A5, c5, rfl, _, _⟩ := ownsRow_slice hv2;
         have h5 : w10.cell? ⟨q0, 5, none⟩ = some (.slice At st.words.length ct) := (HO2.out.cell (i := 0) (j := 5) (u := st.wv) rfl rfl).trans (by rw [HTV.out]);
         have f5 : w10.frozen? ⟨q0, 5, none⟩ = false := HO2.out.frozen (i := 0) rfl 5;
         have zq : q0 < w10.heap.size := (HO2.out.base (i := 0) rfl).2;
         clear hO2 hb2 hg2 hv2))
      all_goals
        obtain ⟨w11, hw11⟩ : ∃ W, W = w10.setCell ⟨q0, 5, none⟩ (.slice A5 (st.words.length + 1) c5) := ⟨_, rfl⟩
        have HO11 := hide_ (show OwnsF F W9 w11 B (rowsG q0 { st with wv := .slice A5 (st.words.length + 1) c5, words := st.words ++ [⟨A', c', y.os⟩] } ex) by
          rw [hw11]
          exact words_rows (t := ⟨A', c', y.os⟩) rfl (by rw [HOS.out]) (HO2.out.store (i := 0) rfl (j := 5) (by simp) _))
        have HB11 := hide_ (show Below B W9 w11 by rw [hw11]; exact HB10.out.setCell (p := ⟨q0, 5, none⟩) (HO2.out.base (i := 0) rfl).1 _)
        have HK11 := hide_ (fun k (h1 : W.heap.size ≤ k) (h2 : k < W9.heap.size) => show w11.heap[k]? = W9.heap[k]? by
          rw [hw11]
          exact (Below.heap_setCell w10 ⟨q0, 5, none⟩ _ k (fun e => by have := HQ0.out; have : k = q0 := e; omega)).trans (HK10.out k h1 h2))
        have HI11 := hide_ (show GInv F w11 B q0 (k + 1) { st with wv := .slice A5 (st.words.length + 1) c5, words := st.words ++ [⟨A', c', y.os⟩] } ex from
          ⟨HO11.out.rebase, Nat.le_trans HBS.out HB11.out.size, fun y hy => (HI9.out.gok y hy).keep (fun k hk => (HO11.out.old k hk).2) HB11.out.size, HI9.out.pos, by have := HI9.out.gl; show st.gs.length ≤ k + 1 + 2; omega, by have := HI9.out.tl; show st.told.length ≤ k + 1; omega, by have := HI9.out.wl; show (st.words ++ [(⟨A', c', y.os⟩ : KV)]).length ≤ k + 1; rw [List.length_append]; simp; omega, HI9.out.len, HI9.out.ok, HI9.out.tn, (fun t ht => (List.mem_append.1 ht).elim (fun ht => HI9.out.wn t ht) (fun ht => by rw [List.mem_singleton.1 ht]; show y.os.length ≤ 35184372088000; rw [HOS.out]; have := HY1.out.ln; omega))⟩)
        have HRL11 := hide_ (show Reads w11 w11.heap.size 1 A' y.ln (u32s y.os) from by
          have h9 := HO11.out.own.1 (wordR ⟨A', c', y.os⟩) (by unfold rowsG; simp)
          have h8 : w11.ownsRow B 39 1 (.slice A' y.os.length c') y.os.length (u32s y.os) := h9
          rw [HOS.out] at h8
          exact Reads.of_own h8)
        have HB1_11 := hide_ (show Below B W1 w11 from (HB9w.out.mono HI1.out.base).trans HB11.out)
        go_upto_region 20 with (fail)
        rw [← hw11]
        clear hw11 h5 f5 zq HO2 HB10
        obtain ⟨⟨x3, x4, x5, x6, x7⟩, z3⟩ := HBX.out W9 HB9w.out
        have hkw := HK11.out W.heap.size (Nat.le_refl _) z3
        have x3 := (World.cell?_of_block (a := ⟨W.heap.size, 3, none⟩) hkw).trans x3
        have x4 := (World.cell?_of_block (a := ⟨W.heap.size, 4, none⟩) hkw).trans x4
        have x5 := (World.cell?_of_block (a := ⟨W.heap.size, 5, none⟩) hkw).trans x5
        have x6 := (World.cell?_of_block (a := ⟨W.heap.size, 6, none⟩) hkw).trans x6
        have z3 := Nat.lt_of_lt_of_le z3 HB11.out.size
        have hkx : Blk w11 gx 84 #[.int .u32 y.b, .int .u32 y.a, .slice A' y.ln c', .int .u32 y.v] := (HK11.out gx (Nat.le_trans (Nat.le_trans HW1.out.size HB5.out.size) HGX.out) HKX9.out.lt).trans HKX9.out
        have kx0 := hkx.cell 0
        have kx1 := hkx.cell 1
        have kx2 := hkx.cell 2
        have kx3 := hkx.cell 3
        have kxl := hkx.lt
        have hs := SameEvent_eq y.b y.a y.v A' y.LA y.ln c' y.lc y.os w11 HRL11.out ((HY1.out.below HB1_11.out).ls.more (Nat.le_trans HI1.out.base HB1_11.out.size)) (by have := HY1.out.ln; omega)
        unfold evCells at hs
        have HSE := hide_ hs
        clear hs hkx hkw x7
        go_wp2_with fail
        refine HSE.out.mono ?_
        rintro e w12 ⟨rfl, hb12⟩
        have HF := hide_ (HI11.out.below hb12)
        have HBF := hide_ (show Below B W w12 from (HW1.out.mono HBW.out).trans (HB1_11.out.trans (hb12.mono HI11.out.base)))
        go_wp2_with fail
        exact bodyPost_ret (v := .bool true) (by simp [results, Try.results20, go_sem]) rfl ⟨rfl, _, HF.out, HBF.out⟩
end
end Go.Proofs.Ytcfpclhoockcfaa
