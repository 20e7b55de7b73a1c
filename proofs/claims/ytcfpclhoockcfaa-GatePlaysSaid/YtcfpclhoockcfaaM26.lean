/-
  The world of GatePlays: what stands in its memory; Grants asked.
-/
import Derived.Test.YtcfpclhoockcfaaM25
import Derived.Deep.Cut
namespace Go.Proofs.Ytcfpclhoockcfaa
open Go.RowKit Go.PlainAid Go.BigFrame
set_option linter.unusedVariables false
set_option linter.unusedSimpArgs false
set_option maxRecDepth 100000
/-- a gate: where it lies, the document's list, where that lies -/
structure GV where
  q : Nat
  A : Option Addr
  c : Nat
  l : List (Int × Int)
/-- a list of grants that was told -/
structure TV where
  A : Option Addr
  c : Nat
  l : List (Int × Int)
/-- a list of words that was told -/
structure KV where
  A : Option Addr
  c : Nat
  xs : List Int
structure GW where
  gs : List GV
  g : Nat
  d : Nat
  cM : Nat
  lv : Value
  xs : List Int
  AD : Option Addr
  cD : Nat
  gv : Value
  rv : Value
  tv : Value
  wv : Value
  told : List TV
  words : List KV
def toldR (t : TV) : Ro := ⟨68, 2, .slice t.A t.l.length t.c, t.l.length, gCells t.l⟩
def wordR (t : KV) : Ro := ⟨39, 1, .slice t.A t.xs.length t.c, t.xs.length, u32s t.xs⟩
def headG (q0 : Nat) (st : GW) : List Ro :=
  [⟨37, 1, .slice (some ⟨q0, 0, none⟩) 6 6, 6, [st.gv, st.rv, .pointer (some ⟨st.g, 0, none⟩), .slice st.AD 256 st.cD, st.tv, st.wv]⟩,
   ⟨25, 1, st.gv, st.gs.length, st.gs.map fun x => .pointer (some ⟨x.q, 0, none⟩)⟩,
   ⟨22, 1, st.rv, st.gs.length, st.gs.map fun x => .slice x.A x.l.length x.c⟩,
   ⟨22, 1, st.tv, st.told.length, st.told.map fun x => .slice x.A x.l.length x.c⟩,
   ⟨40, 1, st.wv, st.words.length, st.words.map fun x => .slice x.A x.xs.length x.c⟩,
   ⟨5, 1, .slice st.AD 256 st.cD, 256, u8s st.xs⟩]
def rowsG (q0 : Nat) (st : GW) (ex : List Ro) : List Ro := headG q0 st ++ (memRows st.g st.d 256 st.cM false st.lv [] st.xs ++ (st.told.map toldR ++ (st.words.map wordR ++ ex)))
/-- a gate stands for its list; its blocks are held still -/
structure GateOk (F : Nat → Prop) (W : World) (x : GV) : Prop where
  at_ : ∃ D, Is D x.l ∧ GateAt W x.q D
  ok : LOk x.l
  fq : F x.q
  fm : ∀ m, W.cell? ⟨x.q, 0, none⟩ = some (.map (some m)) → F m
  rd : GReads W W.heap.size x.A x.l.length x.l
  fa : 0 < x.l.length → ∀ ad, x.A = some ad → F ad.block
theorem GateOk.keep {F : Nat → Prop} {W W' : World} {x : GV} (h : GateOk F W x) (hF : ∀ k, F k → W'.heap[k]? = W.heap[k]?) (hz : W.heap.size ≤ W'.heap.size) : GateOk F W' x := by
  obtain ⟨⟨D, h1, h2⟩, h3, h4, h5, h6, h7⟩ := h
  have hc : W'.cell? ⟨x.q, 0, none⟩ = W.cell? ⟨x.q, 0, none⟩ := World.cell?_of_block (hF x.q h4)
  refine ⟨⟨D, h1, h2.same hz (hF _ h4) (fun m hm => hF m (h5 m hm))⟩, h3, h4, fun m hm => h5 m (by rw [← hc]; exact hm), ⟨h6.1, fun hn => ?_⟩, h7⟩
  obtain ⟨ad, e, hb, hcl⟩ := h6.2 hn
  have hk := hF _ (h7 hn ad e)
  exact ⟨ad, e, Nat.lt_of_lt_of_le hb hz, fun j y a hx => ⟨(World.cell?_of_block (by rw [block_of_add]; exact hk)).trans (hcl j y a hx).1, (World.cell?_of_block (by show W'.heap[(ad.add (j * 2)).block]? = W.heap[(ad.add (j * 2)).block]?; rw [block_of_add]; exact hk)).trans (hcl j y a hx).2⟩⟩
structure GInv (F : Nat → Prop) (W : World) (B q0 k : Nat) (st : GW) (ex : List Ro) : Prop where
  own : OwnsF F W W B (rowsG q0 st ex)
  base : B ≤ W.heap.size
  gok : ∀ x ∈ st.gs, GateOk F W x
  pos : 0 < st.gs.length
  gl : st.gs.length ≤ k + 2
  tl : st.told.length ≤ k
  wl : st.words.length ≤ k
  len : st.xs.length = 256
  ok : bytesOk st.xs
  tn : ∀ t ∈ st.told, t.l.length ≤ 64
  wn : ∀ t ∈ st.words, t.xs.length ≤ 35184372088000
section
variable {F : Nat → Prop} {W W' : World} {B q0 k : Nat} {st : GW} {ex : List Ro}
theorem OwnsF.rebase {w0 : World} {rs : List Ro} (h : OwnsF F w0 W B rs) : OwnsF F W W B rs := ⟨h.own, fun k hk => ⟨(h.old k hk).1, rfl⟩, h.far⟩
theorem GInv.below (h : GInv F W B q0 k st ex) (hb : Below W.heap.size W W') : GInv F W' B q0 k st ex :=
  ⟨(h.own.below hb).rebase, Nat.le_trans h.base hb.size, fun x hx => (h.gok x hx).keep (fun k hk => hb.block k (h.own.old k hk).1) hb.size, h.pos, h.gl, h.tl, h.wl, h.len, h.ok, h.tn, h.wn⟩
/-- the lists' heads, and one gate's cells -/
theorem GInv.gate (h : GInv F W B q0 k st ex) {i : Nat} {x : GV} (hx : st.gs[i]? = some x) :
    ∃ bg cg br cr, st.gv = .slice (some ⟨bg, 0, none⟩) st.gs.length cg ∧ st.rv = .slice (some ⟨br, 0, none⟩) st.gs.length cr ∧
      (W.cell? ⟨q0, 0, none⟩ = some (.slice (some ⟨bg, 0, none⟩) st.gs.length cg) ∧ W.cell? ⟨q0, 1, none⟩ = some (.slice (some ⟨br, 0, none⟩) st.gs.length cr) ∧ W.cell? ⟨bg, i, none⟩ = some (.pointer (some ⟨x.q, 0, none⟩)) ∧ W.cell? ⟨br, i, none⟩ = some (.slice x.A x.l.length x.c)) ∧
      (q0 < W.heap.size ∧ bg < W.heap.size ∧ br < W.heap.size) ∧ i < st.gs.length := by
  have hi : i < st.gs.length := (List.getElem?_eq_some_iff.1 hx).1
  obtain ⟨bg, cg, e1⟩ := ownsRow_some (h.own.at_ (i := 1) rfl) h.pos
  obtain ⟨br, cr, e2⟩ := ownsRow_some (h.own.at_ (i := 2) rfl) h.pos
  have e1' : st.gv = .slice (some ⟨bg, 0, none⟩) st.gs.length cg := e1
  have e2' : st.rv = .slice (some ⟨br, 0, none⟩) st.gs.length cr := e2
  have r1 : (rowsG q0 st ex)[1]? = some ⟨25, 1, .slice (some ⟨bg, 0, none⟩) st.gs.length cg, st.gs.length, st.gs.map fun x => .pointer (some ⟨x.q, 0, none⟩)⟩ := by rw [← e1']; rfl
  have r2 : (rowsG q0 st ex)[2]? = some ⟨22, 1, .slice (some ⟨br, 0, none⟩) st.gs.length cr, st.gs.length, st.gs.map fun x => .slice x.A x.l.length x.c⟩ := by rw [← e2']; rfl
  refine ⟨bg, cg, br, cr, e1', e2', ⟨?_, ?_, h.own.cell r1 (by rw [List.getElem?_map, hx]; rfl), h.own.cell r2 (by rw [List.getElem?_map, hx]; rfl)⟩, ⟨(h.own.base (i := 0) rfl).2, (h.own.base r1).2, (h.own.base r2).2⟩, hi⟩
  · rw [← e1']; exact h.own.cell (i := 0) (j := 0) rfl rfl
  · rw [← e2']; exact h.own.cell (i := 0) (j := 1) rfl rfl
end
end Go.Proofs.Ytcfpclhoockcfaa
/-
  The world of GatePlays: Grants asked.
-/
namespace Go.Proofs.Ytcfpclhoockcfaa
open Go.RowKit Go.PlainAid Go.BigFrame
set_option linter.unusedVariables false
set_option linter.unusedSimpArgs false
set_option maxRecDepth 100000
section
variable {F : Nat → Prop} {W W' : World} {B q0 k : Nat} {st : GW} {ex : List Ro}
/-- the list of what was told, grown by one -/
theorem told_rows {W3 : World} {t : TV} {v : Value} {n : Nat} {ys : List Value} (hn : n = st.told.length + 1) (hy : ys = (st.told.map fun x => Value.slice x.A x.l.length x.c) ++ [.slice t.A t.l.length t.c])
    (h : OwnsF F W W3 B (((rowsG q0 st ex ++ [toldR t]).set 3 ⟨22, 1, v, n, ys⟩).set 0 ⟨37, 1, .slice (some ⟨q0, 0, none⟩) 6 6, 6, [st.gv, st.rv, .pointer (some ⟨st.g, 0, none⟩), .slice st.AD 256 st.cD, v, st.wv]⟩)) :
    OwnsF F W W3 B (rowsG q0 { st with tv := v, told := st.told ++ [t] } ex) := by
  subst hn hy
  have h1 : OwnsF F W W3 B (headG q0 { st with tv := v, told := st.told ++ [t] } ++ ((memRows st.g st.d 256 st.cM false st.lv [] st.xs ++ (st.told.map toldR ++ (st.words.map wordR ++ ex))) ++ [toldR t])) := by
    have e1 : (st.told ++ [t]).length = st.told.length + 1 := by simp
    have e2 : ((st.told ++ [t]).map fun x => Value.slice x.A x.l.length x.c) = (st.told.map fun x => Value.slice x.A x.l.length x.c) ++ [.slice t.A t.l.length t.c] := by simp
    unfold headG
    dsimp only
    rw [e1, e2]
    exact h
  refine h1.perm fun cnt one k1 k2 k3 => ?_
  unfold rowsG
  dsimp only
  rw [List.map_append]
  simp only [k1, k2, k3, List.map_cons, List.map_nil]
  omega
set_option maxHeartbeats 4000000 in
theorem grantsAsked_any (h : GInv F W B q0 k st ex) (i : Nat) (hi : i < st.gs.length) (hk : k ≤ 5000000000000) :
    Calls Try.prog 7 #[.pointer (some ⟨q0, 0, none⟩), .int .i64 i] W fun e W' => e = .returned (.bool true) ∧ ∃ st', GInv F W' B q0 (k + 1) st' ex ∧ st'.gs = st.gs ∧ Below B W W' := by
  obtain ⟨i0, hi0, hz0, hz1, hz2⟩ := info_parts apk_infoG
  obtain ⟨x, hx⟩ : ∃ x, st.gs[i]? = some x := ⟨_, List.getElem?_eq_getElem hi⟩
  have hxm := List.mem_of_getElem? hx
  obtain ⟨bg, cg, br, cr, eg, er, ⟨f0, f1, f2, f3⟩, ⟨z0, z1, z2⟩, _⟩ := h.gate hx
  have HH := hide_ h
  have HX := hide_ hx
  have HXM := hide_ hxm
  have HG := hide_ (fun W (h : GInv F W B q0 k st ex) => h.gate hx)
  have hil : (i : Int) < (st.gs.length : Int) := by omega
  have HIL := hide_ hil
  obtain ⟨D, hD, hga⟩ := (h.gok x hxm).at_
  have HD := hide_ hD
  have HGR := hide_ (Grants_any x.q D W hga)
  obtain ⟨gn, hgn⟩ : ∃ n, n = st.gs.length := ⟨_, rfl⟩
  have HGN := hide_ hgn
  rw [← hgn] at f0 f1 hil
  clear h hx hxm hD hga eg er hgn
  go_enter Try.func7, Try.ntmps7
  go_wp2_with fail
  refine HGR.out.mono ?_
  rintro e w1 ⟨Al, l, cl, rfl, hT, ho1, hb1, hl64⟩
  have HT := hide_ hT
  have HI1 := hide_ (HH.out.below hb1)
  have HO1 := hide_ ((HH.out.own.push hb1 (r := toldR ⟨Al, cl, l⟩) ho1 HH.out.base).rebase)
  have HB1 := hide_ hb1
  have HL64 := hide_ hl64
  obtain ⟨At, ct, etv, htc, _⟩ := ownsRow_slice (HI1.out.own.at_ (i := 3) rfl)
  have etv' : st.tv = .slice At st.told.length ct := etv
  have h4 : w1.cell? ⟨q0, 4, none⟩ = some (.slice At st.told.length ct) := by rw [← etv']; exact HO1.out.cell (i := 0) (j := 4) rfl rfl
  have HR3 := hide_ (show (rowsG q0 st ex ++ [toldR ⟨Al, cl, l⟩])[3]? = some ⟨22, 1, .slice At st.told.length ct, st.told.length, st.told.map fun x => .slice x.A x.l.length x.c⟩ by rw [← etv']; rfl)
  have HTL := hide_ HI1.out.tl
  have HTV := hide_ etv'
  have z0' : q0 < w1.heap.size := (HO1.out.base (i := 0) rfl).2
  have HBS := hide_ HI1.out.base
  clear hT ho1 hb1 hl64 etv etv' htc f0 f1 f2 f3 z0 z1 z2 HGR
  go_wp2_with (at_builtin; refine wpList_append_ownsF _ rfl (.tmp 18) (.tmp 20) 34 rfl B _ 3 22 1 (.slice At st.told.length ct) st.told.length (st.told.map fun x => .slice x.A x.l.length x.c) HR3.out (HO1.out.alloc _) (by have := HBS.out; rw [World.size_alloc]; omega) i0 _ 24 Try.underlying34 hi0 hz0 hz1 hz2 rfl (by omega) rfl _ _ 1 1 [.slice Al l.length cl] rfl (reads_new w1 22 1 1 [.slice Al l.length cl] rfl) (by simp [Value.oneCell']) (by have := HTL.out; simp only [maxLen]; omega) (by have := HTL.out; omega) ?_)
  intro v2 w2 hO2 hb2 hsz2
  have HO2 := hide_ hO2
  have HB2 := hide_ (show Below B w1 w2 from (Below.alloc (Below.refl _ _) HBS.out _).trans hb2)
  have hv2 := HO2.out.at_ (i := 3) rfl
  dsimp only at hv2
  obtain ⟨A5, c5, rfl, _, _⟩ := ownsRow_slice hv2
  have h4 : w2.cell? ⟨q0, 4, none⟩ = some (.slice At st.told.length ct) := by
    have h9 := HO2.out.cell (i := 0) (j := 4) (u := st.tv) rfl rfl
    rw [h9, HTV.out]
  have f4 : w2.frozen? ⟨q0, 4, none⟩ = false := HO2.out.frozen (i := 0) rfl 4
  have z0'' : q0 < w2.heap.size := (HO2.out.base (i := 0) rfl).2
  obtain ⟨w3, hw3⟩ : ∃ W, W = w2.setCell ⟨q0, 4, none⟩ (.slice A5 (st.told.length + 1) c5) := ⟨_, rfl⟩
  have HO3 := hide_ (show OwnsF F w1 w3 B (rowsG q0 { st with tv := .slice A5 (st.told.length + 1) c5, told := st.told ++ [⟨Al, cl, l⟩] } ex) by
    rw [hw3]
    exact told_rows (t := ⟨Al, cl, l⟩) rfl rfl (HO2.out.store (i := 0) rfl (j := 4) (by simp) _))
  have HB3 := hide_ (show Below B w1 w3 by rw [hw3]; exact HB2.out.setCell (p := ⟨q0, 4, none⟩) (HO2.out.base (i := 0) rfl).1 _)
  have HI3 := hide_ (show GInv F w3 B q0 (k + 1) { st with tv := .slice A5 (st.told.length + 1) c5, told := st.told ++ [⟨Al, cl, l⟩] } ex from
    ⟨HO3.out.rebase, Nat.le_trans HBS.out HB3.out.size, fun y hy => (HI1.out.gok y hy).keep (fun k hk => (HO3.out.old k hk).2) HB3.out.size, HI1.out.pos, by have := HI1.out.gl; show st.gs.length ≤ k + 1 + 2; omega, by have := HI1.out.tl; show (st.told ++ [(⟨Al, cl, l⟩ : TV)]).length ≤ k + 1; rw [List.length_append]; simp; omega, by have := HI1.out.wl; show st.words.length ≤ k + 1; omega, HI1.out.len, HI1.out.ok, (fun t ht => (List.mem_append.1 ht).elim (fun ht => HI1.out.tn t ht) (fun ht => by rw [List.mem_singleton.1 ht]; exact HL64.out)), HI1.out.wn⟩)
  clear hv2 hO2 hb2 hsz2
  go_upto_region 3 with (fail)
  rw [← hw3]
  clear hw3 h4 f4 z0' z0'' HO2 HB2
  obtain ⟨bg, cg, br, cr, eg, er, ⟨f0, f1, f2, f3⟩, ⟨z0, z1, z2⟩, _⟩ := HI3.out.gate (i := i) (x := x) HX.out
  have hgok := HI3.out.gok x HXM.out
  have HS := hide_ (rSorted_any x.A x.l.length x.c w3.heap.size x.l w3 hgok.rd (Nat.le_refl _) (by have := hgok.ok.few; omega))
  have HLK := hide_ hgok.ok
  have HTR := hide_ (show Reads w3 w3.heap.size 2 Al l.length (gCells l) from by
    have h9 := HO3.out.own.1 (toldR ⟨Al, cl, l⟩) (by unfold rowsG; simp)
    exact Reads.of_own h9)
  dsimp only at f0 f1
  rw [← HGN.out] at f0 f1
  clear hgok eg er
  go_wp2_with fail
  refine HS.out.mono ?_
  rintro e w4 ⟨v4, l', rfl, hp, hs, ho4, hb4⟩
  obtain ⟨A6, c6, rfl, _, _⟩ := ownsRow_slice ho4
  have HEQ := hide_ (HD.out.told HLK.out HT.out hp hs)
  have HI4 := hide_ (HI3.out.below hb4)
  have HB4 := hide_ (HB3.out.trans (hb4.mono HI3.out.base))
  have HSM := hide_ (SameGrants_any Al A6 l.length cl x.l.length c6 l l' w4.heap.size w4 (GReads.of_reads ((HTR.out.below hb4).more hb4.size)) (GReads.of_reads (Reads.of_own ho4)) (Nat.le_refl _) (by have := HL64.out; omega) (by have := HLK.out.few; omega))
  clear hp hs ho4 hb4 HS f0 f1 f2 f3 z0 z1 z2
  go_wp2_with fail
  refine HSM.out.mono ?_
  rintro e w5 ⟨rfl, nq, rfl⟩
  have HI5 := hide_ (HI4.out.below (below_draws2 (Below.refl _ _) nq))
  have HB5 := hide_ (show Below B W (w4.drewN nq) from (HB1.out.mono HH.out.base).trans (below_draws2 HB4.out nq))
  have hde : decide (l = l') = true := by rw [HEQ.out]; simp
  rw [hde]
  clear hde HSM HEQ
  go_wp2_with fail
  exact bodyPost_ret (v := .bool true) (by simp [results, Try.results7, go_sem]) rfl ⟨rfl, _, HI5.out, rfl, HB5.out⟩
end
end Go.Proofs.Ytcfpclhoockcfaa
/-
  The world of GatePlays: its memory; what a gate answers of words, as the document's list has it.
-/
namespace Go.Proofs.Ytcfpclhoockcfaa
open Go.RowKit Go.PlainAid Go.BigFrame
set_option linter.unusedVariables false
set_option linter.unusedSimpArgs false
set_option maxRecDepth 100000
/-- how many words a number hands over, as a count -/
def cntN (l : List (Int × Int)) (y : Int) : Nat := (findN l y).1.toNat
section
variable {F : Nat → Prop} {W W' : World} {B q0 k : Nat} {st : GW} {ex : List Ro}
theorem GInv.mem (h : GInv F W B q0 k st ex) : MemAt W st.g st.d 256 st.cM st.xs := by
  refine MemAt.of_seg (B := B) (ex := headG q0 st ++ (st.told.map toldR ++ (st.words.map wordR ++ ex))) ⟨⟨st.lv, ?_⟩, h.base, ⟨8, by omega, by omega, rfl⟩, h.len, h.ok⟩
  refine h.own.own.swap ?_
  unfold rowsG
  exact List.perm_append_comm_assoc _ _ _
theorem find_facts {l : List (Int × Int)} {D : MD} (hl : LOk l) (hD : Is D l) {y c : Int} (hc : D.atKey (kx y) z0 = .lit (.int .i64 c)) :
    findN l y = (((cntN l y : Nat) : Int), Maps.has D (kx y)) ∧ c = ((cntN l y : Nat) : Int) ∧ cntN l y ≤ 15 := by
  have h1 := hD.find hl hc
  have h2 : 0 ≤ c ∧ c ≤ 15 := by
    by_cases hn : hasNum l y = true
    · obtain ⟨a, ha⟩ := hasNum_true hn
      have h3 := findN_mem hl.once ha
      simp only at h3
      rw [h1] at h3
      have e : c = a := by injection h3
      have := (hl.ok _ ha).2
      simp only at this
      omega
    · have h3 := findN_none (l := l) (x := y) (by simpa using hn)
      rw [h1] at h3
      have e : c = 0 := by injection h3
      omega
  have h4 : ((cntN l y : Nat) : Int) = c := by
    unfold cntN
    rw [h1]
    show (c.toNat : Int) = c
    omega
  exact ⟨by rw [h1, h4], h4.symm, by omega⟩
theorem GInv.words (h : GInv F W B q0 k st ex) {i : Nat} {x : GV} (hx : st.gs[i]? = some x) (sp y : Int) (sp0 : 0 ≤ sp) (sp1 : sp < 4294967296) (hy : (Lit.int .u32 y).wf = true) :
    Calls Try.prog 30 #[.pointer (some ⟨x.q, 0, none⟩), .pointer (some ⟨st.g, 0, none⟩), .int .u32 sp, .int .u32 y] W fun e w' => ∃ A cc, e = .returned (.tuple #[.slice A (cntN x.l y) cc, .bool (findN x.l y).2]) ∧
      w'.ownsRow W.heap.size 39 1 (.slice A (cntN x.l y) cc) (cntN x.l y) (u32s (wordsAt 256 st.xs sp (cntN x.l y))) ∧ Below W.heap.size W w' := by
  have hg := h.gok x (List.mem_of_getElem? hx)
  obtain ⟨D, hD, hga⟩ := hg.at_
  obtain ⟨m, n, _, _, _, hm, _⟩ := hga
  obtain ⟨c, hc, _⟩ := val_ex hm y hy
  obtain ⟨h1, h2, h3⟩ := find_facts hg.ok hD hc
  obtain ⟨D', hD', hga⟩ := hg.at_
  cases hh : Maps.has D (kx y) with
  | true =>
    have hga2 : GateAt W x.q D := ⟨m, n, by assumption, by assumption, by assumption, hm, by assumption⟩
    rw [h2] at hc
    refine (Words_s x.q D sp y (cntN x.l y) hga2 hy hh hc h3 h.mem sp0 sp1).mono ?_
    rintro e w' ⟨A, cc, rfl, ho, hb⟩
    rw [h1, hh]
    exact ⟨A, cc, rfl, ho, hb⟩
  | false =>
    have hga2 : GateAt W x.q D := ⟨m, n, by assumption, by assumption, by assumption, hm, by assumption⟩
    refine (Words_no x.q D (some ⟨st.g, 0, none⟩) sp y hga2 hy hh).mono ?_
    rintro e w' ⟨rfl, rfl⟩
    have hz : cntN x.l y = 0 := by
      have h5 := h1
      rw [hh] at h5
      by_cases hn : hasNum x.l y = true
      · obtain ⟨a, ha⟩ := hasNum_true hn
        have h6 := findN_mem hg.ok.once ha
        simp only at h6
        rw [h5] at h6
        injection h6 with _ h6
        cases h6
      · have h6 := findN_none (l := x.l) (x := y) (by simpa using hn)
        unfold cntN
        rw [h6]
        rfl
    rw [h1, hh, hz]
    exact ⟨none, 0, rfl, World.ownsRow_nil _ _ _ _, Below.refl _ _⟩
end
end Go.Proofs.Ytcfpclhoockcfaa
