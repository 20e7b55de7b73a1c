/-
  The world of GatePlays: Words asked.
-/
import Derived.Test.YtcfpclhoockcfaaM26
import Derived.Deep.Cut
import Derived.Deep.RegionLaw
import Derived.StillTailTactics
import Derived.Deep.RegionHeld3
namespace Go.Proofs.Ytcfpclhoockcfaa
open Go.RowKit Go.PlainAid Go.BigFrame
set_option linter.unusedVariables false
set_option linter.unusedSimpArgs false
set_option maxRecDepth 100000
/-- one call of a script -/
structure AskV where
  on : Int
  to_ : Int
  kind : Int
  a : Int
  b : Int
  LA : Option Addr
  ln : Nat
  lc : Nat
  os : List Int
  v : Int
  WA : Option Addr
  wn : Nat
  wc : Nat
  ws : Nat → Wr
  zs : Nat → List Int
def askC (x : AskV) : Array Value := #[.int .i64 x.on, .int .i64 x.to_, .int .i64 x.kind, .int .u32 x.a, .int .u32 x.b, .slice x.LA x.ln x.lc, .int .u32 x.v, .slice x.WA x.wn x.wc]
theorem u32_lit {x : Int} (h0 : 0 ≤ x) (h1 : x < 4294967296) : (Lit.int .u32 x).wf = true := wf_u32_of h0 (by omega)
section
variable {F : Nat → Prop} {W W' : World} {B q0 k : Nat} {st : GW} {ex : List Ro}
theorem rowsG_ex (q0 : Nat) (st : GW) (ex : List Ro) (r : Ro) : rowsG q0 st (ex ++ [r]) = rowsG q0 st ex ++ [r] := by simp [rowsG, List.append_assoc]
theorem GInv.push (h : GInv F W B q0 k st ex) (hb : Below W.heap.size W W') {r : Ro} (hr : W'.ownsRow W.heap.size r.e r.size r.v r.n r.xs) : GInv F W' B q0 k st (ex ++ [r]) := by
  have h1 := h.below hb
  refine ⟨?_, h1.base, h1.gok, h1.pos, h1.gl, h1.tl, h1.wl, h1.len, h1.ok, h1.tn, h1.wn⟩
  rw [rowsG_ex]
  exact (h.own.push hb hr h.base).rebase
theorem GInv.drop {r : Ro} (h : GInv F W B q0 k st (ex ++ [r])) : GInv F W B q0 k st ex := by
  refine ⟨?_, h.base, h.gok, h.pos, h.gl, h.tl, h.wl, h.len, h.ok, h.tn, h.wn⟩
  have h1 := h.own
  rw [rowsG_ex] at h1
  exact h1.sub (List.sublist_append_left _ _)
theorem cnt_zero {l : List (Int × Int)} {y : Int} (h : (findN l y).2 = false) : cntN l y = 0 := by
  unfold cntN
  unfold findN at h ⊢
  cases hf : l.find? (fun t => t.1 == y) with
  | none => rfl
  | some t => rw [hf] at h; cases h
/-- the list of words told, grown by one -/
theorem words_rows {W3 : World} {t : KV} {v : Value} {n : Nat} {ys : List Value} (hn : n = st.words.length + 1) (hy : ys = (st.words.map fun x => Value.slice x.A x.xs.length x.c) ++ [.slice t.A t.xs.length t.c])
    (h : OwnsF F W W3 B (((rowsG q0 st ex ++ [wordR t]).set 4 ⟨40, 1, v, n, ys⟩).set 0 ⟨37, 1, .slice (some ⟨q0, 0, none⟩) 6 6, 6, [st.gv, st.rv, .pointer (some ⟨st.g, 0, none⟩), .slice st.AD 256 st.cD, st.tv, v]⟩)) :
    OwnsF F W W3 B (rowsG q0 { st with wv := v, words := st.words ++ [t] } ex) := by
  subst hn hy
  have h1 : OwnsF F W W3 B (headG q0 { st with wv := v, words := st.words ++ [t] } ++ ((memRows st.g st.d 256 st.cM false st.lv [] st.xs ++ (st.told.map toldR ++ (st.words.map wordR ++ ex))) ++ [wordR t])) := by
    have e1 : (st.words ++ [t]).length = st.words.length + 1 := by simp
    have e2 : ((st.words ++ [t]).map fun x => Value.slice x.A x.xs.length x.c) = (st.words.map fun x => Value.slice x.A x.xs.length x.c) ++ [.slice t.A t.xs.length t.c] := by simp
    unfold headG
    dsimp only
    rw [e1, e2]
    exact h
  refine h1.perm fun cnt one k1 k2 k3 => ?_
  unfold rowsG
  dsimp only
  rw [List.map_append]
  simp only [k1, k2, k3, List.map_cons, List.map_nil]
  omega
set_option maxHeartbeats 4000000 in
theorem wordsAsked_any (h : GInv F W B q0 k st ex) (i : Nat) (hi : i < st.gs.length) (hk : k ≤ 5000000000000) (y : AskV) (a0 : 0 ≤ y.a) (a1 : y.a < 4294967296) (b0 : 0 ≤ y.b) (b1 : y.b < 4294967296) :
    Calls Try.prog 19 #[.pointer (some ⟨q0, 0, none⟩), .int .i64 i, .agg (askC y)] W fun e W' => e = .returned (.bool true) ∧ ∃ st', GInv F W' B q0 (k + 1) st' ex ∧ Below B W W' := by
  obtain ⟨x, hx⟩ : ∃ x, st.gs[i]? = some x := ⟨_, List.getElem?_eq_getElem hi⟩
  have hxm := List.mem_of_getElem? hx
  obtain ⟨W1, hW1⟩ : ∃ W1, W1 = W.alloc (.cells (askC y) 45) := ⟨_, rfl⟩
  have HW1 := hide_ (show Below W.heap.size W W1 by rw [hW1]; exact (Below.refl _ _).alloc (Nat.le_refl _) _)
  have HK0 := hide_ (show Blk W1 W.heap.size 45 (askC y) by rw [hW1]; exact Blk.new W _ _)
  have HI1 := hide_ (h.below HW1.out)
  have HBX := hide_ (fun W2 (hb : Below W1.heap.size W1 W2) => show (W2.cell? ⟨W.heap.size, 3, none⟩ = some (.int .u32 y.a) ∧ W2.cell? ⟨W.heap.size, 4, none⟩ = some (.int .u32 y.b)) ∧ W.heap.size < W2.heap.size from ⟨⟨(HK0.out.below hb HK0.out.lt).cell 3, (HK0.out.below hb HK0.out.lt).cell 4⟩, Nat.lt_of_lt_of_le HK0.out.lt hb.size⟩)
  have HGT := hide_ (fun W2 (h2 : GInv F W2 B q0 k st ex) => h2.gate hx)
  have hil : (i : Int) < (st.gs.length : Int) := by omega
  have HRG := hide_ (fun W2 (h2 : GInv F W2 B q0 k st ex) => rGranted_any x.A x.l.length x.c W2.heap.size x.l y.a W2 (h2.gok x hxm).rd (Nat.le_refl _) (by have := (h2.gok x hxm).ok.few; omega))
  have HWD := hide_ (fun W2 (h2 : GInv F W2 B q0 k st ex) => h2.words hx y.b y.a b0 b1 (u32_lit a0 a1))
  have HBW := hide_ h.base
  have HFF := hide_ (show (findN x.l y.a).1 = ((cntN x.l y.a : Nat) : Int) ∧ cntN x.l y.a ≤ 15 by
    obtain ⟨D, hD, m, n, _, _, _, hm, _⟩ := (h.gok x hxm).at_
    obtain ⟨c, hc, _⟩ := val_ex hm y.a (u32_lit a0 a1)
    obtain ⟨h1, _, h3⟩ := find_facts (h.gok x hxm).ok hD hc
    exact ⟨by rw [h1], h3⟩)
  obtain ⟨m, hm⟩ : ∃ m, m = cntN x.l y.a := ⟨_, rfl⟩
  obtain ⟨ok, hok⟩ : ∃ b, b = (findN x.l y.a).2 := ⟨_, rfl⟩
  have HRG2 := hide_ (fun W2 (h2 : GInv F W2 B q0 k st ex) => show Calls Try.prog 18 #[.slice x.A x.l.length x.c, .int .u32 y.a] W2 fun e w' => e = .returned (.tuple #[.int .i64 (m : Nat), .bool ok]) ∧ w' = W2 by rw [hm, hok, ← HFF.out.1]; exact HRG.out W2 h2)
  have HWD2 := hide_ (fun W2 (h2 : GInv F W2 B q0 k st ex) => show Calls Try.prog 30 #[.pointer (some ⟨x.q, 0, none⟩), .pointer (some ⟨st.g, 0, none⟩), .int .u32 y.b, .int .u32 y.a] W2 fun e w' => ∃ A cc, e = .returned (.tuple #[.slice A m cc, .bool ok]) ∧
      w'.ownsRow W2.heap.size 39 1 (.slice A m cc) m (u32s (wordsAt 256 st.xs y.b m)) ∧ Below W2.heap.size W2 w' by rw [hm, hok]; exact HWD.out W2 h2)
  have HM15 := hide_ (show m ≤ 15 by rw [hm]; exact HFF.out.2)
  have HM0 := hide_ (show ok = false → m = 0 from fun h => by rw [hm]; exact cnt_zero (by rw [← hok]; exact h))
  clear h hx hxm HRG HWD HFF hm hok HK0
  unfold askC at hW1 ⊢
  obtain ⟨bg, cg, br, cr, eg, er, ⟨f0, f1, f2, f3⟩, ⟨z0, z1, z2⟩, _⟩ := HGT.out W1 HI1.out
  obtain ⟨⟨x3, x4⟩, z3⟩ := HBX.out W1 (Below.refl _ _)
  obtain ⟨gn, hgn⟩ : ∃ n, n = st.gs.length := ⟨_, rfl⟩
  rw [← hgn] at f0 f1 hil
  have HGN := hide_ hgn
  clear eg er hgn hi
  go_enter Try.func19, Try.ntmps19
  go_upto_region 1 with (fail)
  rw [← hW1]
  clear hW1
  go_region_with (go_at_call 18; refine (HRG2.out _ (HI1.out.below ((Below.refl _ _).drew))).mono ?_; rintro e w7 ⟨rfl, hw7⟩; subst hw7)
  all_goals
    obtain ⟨W2, hW2⟩ : ∃ W2, W2 = W1.drew := ⟨_, rfl⟩
    have HI2 := hide_ (show GInv F W2 B q0 k st ex by rw [hW2]; exact HI1.out.below ((Below.refl _ _).drew))
    have HB2 := hide_ (show Below W1.heap.size W1 W2 by rw [hW2]; exact (Below.refl _ _).drew)
    rw [← hW2]
    clear hW2 f0 f1 f2 f3 z0 z1 z2 x3 x4 z3
    obtain ⟨bg, cg, br, cr, eg, er, ⟨f0, f1, f2, f3⟩, ⟨z0, z1, z2⟩, _⟩ := HGT.out W2 HI2.out
    obtain ⟨⟨x3, x4⟩, z3⟩ := HBX.out W2 HB2.out
    have fm : W2.cell? ⟨q0, 2, none⟩ = some (.pointer (some ⟨st.g, 0, none⟩)) := HI2.out.own.cell (i := 0) (j := 2) rfl rfl
    rw [← HGN.out] at f0 f1
    clear eg er
    go_upto_region 2 with (fail)
    go_region_held3 (fun W3 => W3.cell? ⟨q0, 0, none⟩ = some (.slice (some ⟨bg, 0, none⟩) gn cg) ∧ W3.cell? ⟨bg, i, none⟩ = some (.pointer (some ⟨x.q, 0, none⟩)) ∧ W3.cell? ⟨q0, 2, none⟩ = some (.pointer (some ⟨st.g, 0, none⟩)) ∧ W3.cell? ⟨W.heap.size, 3, none⟩ = some (.int .u32 y.a) ∧ W3.cell? ⟨W.heap.size, 4, none⟩ = some (.int .u32 y.b))
      (first | exact ⟨f0, f2, fm, x3, x4⟩ | exact ⟨(hb8.cell (p := ⟨q0, 0, none⟩) z0).trans f0, (hb8.cell (p := ⟨bg, i, none⟩) z1).trans f2, (hb8.cell (p := ⟨q0, 2, none⟩) z0).trans fm, (hb8.cell (p := ⟨W.heap.size, 3, none⟩) z3).trans x3, (hb8.cell (p := ⟨W.heap.size, 4, none⟩) z3).trans x4⟩ | go_keep)
      ((go_at_call 30; refine (HWD2.out _ (by first | exact HI2.out | exact HI2.out.below ((Below.refl _ _).drew))).mono ?_; rintro e w8 ⟨Al, cc, rfl, ho8, hb8⟩))
    all_goals
      have HO8 := hide_ ho8
      have HBB := hide_ (show Below W2.heap.size W2 w8 by first | exact hb8 | exact ((Below.refl _ _).drew).trans hb8)
      have HI3 := hide_ (HI2.out.below HBB.out)
      have HB3 := hide_ (HB2.out.trans (HBB.out.mono HB2.out.size))
      have HP3 := hide_ ((HI2.out.own.push HBB.out (r := wordR ⟨Al, cc, wordsAt 256 st.xs y.b m⟩) (by have h9 := HO8.out; have e9 : (wordsAt 256 st.xs y.b m).length = m := wordsAt_len _ _ _ _; show w8.ownsRow W2.heap.size 39 1 (.slice Al (wordsAt 256 st.xs y.b m).length cc) (wordsAt 256 st.xs y.b m).length (u32s (wordsAt 256 st.xs y.b m)); rw [e9]; exact h9) HI2.out.base).rebase)
      have HRL := hide_ (show Reads w8 w8.heap.size 1 Al m (u32s (wordsAt 256 st.xs y.b m)) from Reads.of_own HO8.out)
      clear ho8 hb8 HO8 HBB HI2 HB2 f0 f1 f2 f3 z0 z1 z2 x3 x4 z3 fm
      obtain ⟨⟨x3, x4⟩, z3⟩ := HBX.out w8 HB3.out
      have fd : w8.cell? ⟨q0, 3, none⟩ = some (.slice st.AD 256 st.cD) := HI3.out.own.cell (i := 0) (j := 3) rfl rfl
      have zq : q0 < w8.heap.size := (HI3.out.own.base (i := 0) rfl).2
      cases ok with
      | false =>
        go_upto_region 6 with (fail)
        obtain ⟨At, ct, etv, _, _⟩ := ownsRow_slice (HI3.out.own.at_ (i := 4) rfl)
        have HTV := hide_ (show st.wv = .slice At st.words.length ct from etv)
        have h5 : w8.cell? ⟨q0, 5, none⟩ = some (.slice At st.words.length ct) := by rw [← HTV.out]; exact HP3.out.cell (i := 0) (j := 5) rfl rfl
        have HR3 := hide_ (show (rowsG q0 st ex ++ [wordR ⟨Al, cc, wordsAt 256 st.xs y.b m⟩])[4]? = some ⟨40, 1, .slice At st.words.length ct, st.words.length, st.words.map fun x => .slice x.A x.xs.length x.c⟩ by rw [← HTV.out]; rfl)
        have HTL := hide_ HI3.out.wl
        have HBS := hide_ HI3.out.base
        have zq : q0 < w8.heap.size := (HP3.out.base (i := 0) rfl).2
        obtain ⟨i0, hi0, hz0, hz1, hz2⟩ := info_parts apk_infoB
        clear etv
        go_wp2_with (at_builtin; refine wpList_append_ownsF _ rfl (.tmp 57) (.tmp 59) 35 rfl B _ 4 40 1 (.slice At st.words.length ct) st.words.length (st.words.map fun x => .slice x.A x.xs.length x.c) HR3.out (HP3.out.alloc _) (by have := HBS.out; rw [World.size_alloc]; omega) i0 _ 24 Try.underlying35 hi0 hz0 hz1 hz2 rfl (by omega) rfl _ _ 1 1 [.slice Al m cc] rfl (reads_new w8 40 1 1 [.slice Al m cc] rfl) (by simp [Value.oneCell']) (by have := HTL.out; simp only [maxLen]; omega) (by have := HTL.out; omega) ?_)
        intro v2 w10 hO2 hb2 hsz2
        have HO2 := hide_ hO2
        have HB10 := hide_ (show Below B w8 w10 from (Below.alloc (Below.refl _ _) HBS.out _).trans hb2)
        have hv2 := HO2.out.at_ (i := 4) rfl
        dsimp only at hv2
        obtain ⟨A5, c5, rfl, _, _⟩ := ownsRow_slice hv2
        have h5 : w10.cell? ⟨q0, 5, none⟩ = some (.slice At st.words.length ct) := by
          have h9 := HO2.out.cell (i := 0) (j := 5) (u := st.wv) rfl rfl
          rw [h9, HTV.out]
        have f5 : w10.frozen? ⟨q0, 5, none⟩ = false := HO2.out.frozen (i := 0) rfl 5
        have zq : q0 < w10.heap.size := (HO2.out.base (i := 0) rfl).2
        obtain ⟨w11, hw11⟩ : ∃ W, W = w10.setCell ⟨q0, 5, none⟩ (.slice A5 (st.words.length + 1) c5) := ⟨_, rfl⟩
        have HO11 := hide_ (show OwnsF F w8 w11 B (rowsG q0 { st with wv := .slice A5 (st.words.length + 1) c5, words := st.words ++ [⟨Al, cc, wordsAt 256 st.xs y.b m⟩] } ex) by
          rw [hw11]
          exact words_rows (t := ⟨Al, cc, wordsAt 256 st.xs y.b m⟩) rfl (by rw [wordsAt_len]) (HO2.out.store (i := 0) rfl (j := 5) (by simp) _))
        have HB11 := hide_ (show Below B w8 w11 by rw [hw11]; exact HB10.out.setCell (p := ⟨q0, 5, none⟩) (HO2.out.base (i := 0) rfl).1 _)
        have HI11 := hide_ (show GInv F w11 B q0 (k + 1) { st with wv := .slice A5 (st.words.length + 1) c5, words := st.words ++ [⟨Al, cc, wordsAt 256 st.xs y.b m⟩] } ex from
          ⟨HO11.out.rebase, Nat.le_trans HBS.out HB11.out.size, fun y hy => (HI3.out.gok y hy).keep (fun k hk => (HO11.out.old k hk).2) HB11.out.size, HI3.out.pos, by have := HI3.out.gl; show st.gs.length ≤ k + 1 + 2; omega, by have := HI3.out.tl; show st.told.length ≤ k + 1; omega, by have := HI3.out.wl; show (st.words ++ [(⟨Al, cc, wordsAt 256 st.xs y.b m⟩ : KV)]).length ≤ k + 1; rw [List.length_append]; simp; omega, HI3.out.len, HI3.out.ok, HI3.out.tn, (fun t ht => (List.mem_append.1 ht).elim (fun ht => HI3.out.wn t ht) (fun ht => by rw [List.mem_singleton.1 ht]; show (wordsAt 256 st.xs y.b m).length ≤ 35184372088000; rw [wordsAt_len]; have := HM15.out; omega))⟩)
        have HRL11 := hide_ (show Reads w11 w11.heap.size 1 Al m (u32s (wordsAt 256 st.xs y.b m)) from by
          have h9 := HO11.out.own.1 (wordR ⟨Al, cc, wordsAt 256 st.xs y.b m⟩) (by unfold rowsG; simp)
          have h8 : w11.ownsRow B 39 1 (.slice Al (wordsAt 256 st.xs y.b m).length cc) (wordsAt 256 st.xs y.b m).length (u32s (wordsAt 256 st.xs y.b m)) := h9
          rw [wordsAt_len] at h8
          exact Reads.of_own h8)
        clear hv2 hO2 hb2 hsz2
        go_upto_region 7 with (fail)
        rw [← hw11]
        clear hw11 h5 f5 zq HO2 HB10
        have HSM := hide_ (SameWords_any Al none m cc 0 0 (wordsAt 256 st.xs y.b m) [] w11.heap.size w11 HRL11.out ⟨rfl, fun h => absurd h (by omega)⟩ (by have := HM15.out; unfold maxLen; omega) (by unfold maxLen; omega))
        have HDE := hide_ (show decide (wordsAt 256 st.xs y.b m = []) = true by rw [HM0.out (by first | trivial | rfl)]; simp [wordsAt])
        go_wp2_with fail
        refine HSM.out.mono ?_
        rintro e w12 ⟨rfl, nq, rfl⟩
        rw [HDE.out]
        have HI12 := hide_ (HI11.out.below (below_draws2 (Below.refl _ _) nq))
        have HB12 := hide_ (show Below B W (w11.drewN nq) from (HW1.out.mono HBW.out).trans ((HB3.out.mono HI1.out.base).trans (below_draws2 HB11.out nq)))
        clear HSM HDE
        go_wp2_with fail
        exact bodyPost_ret (v := .bool true) (by simp [results, Try.results19, go_sem]) rfl ⟨rfl, _, HI12.out, HB12.out⟩
      | true =>
        go_upto_region 5 with (fail)
        go_still_tail 7, (by kernel_rfl)
        change wpList _ _ _ _ _ w8.drew
        have HI4 := hide_ (HI3.out.below ((Below.refl _ _).drew))
        have HP4 := hide_ (HP3.out.drew.rebase)
        obtain ⟨w8d, hw8d⟩ : ∃ W, W = w8.drew := ⟨_, rfl⟩
        have HB4 := hide_ (show Below W1.heap.size W1 w8d by rw [hw8d]; exact HB3.out.drew)
        rw [← hw8d] at HI4 HP4 ⊢
        clear hw8d x3 x4 z3 fd zq
        have HRW := hide_ (rWords_any st.AD st.cD w8d.heap.size st.xs y.b m w8d (Reads.of_own (HI4.out.own.at_ (i := 5) rfl)) HI4.out.ok (Nat.le_refl _) b0 b1 HM15.out)
        go_wp2_with fail
        refine HRW.out.mono ?_
        rintro e w9 ⟨v9, rfl, ho9, hb9⟩
        obtain ⟨A9, c9, rfl, _, _⟩ := ownsRow_slice ho9
        obtain ⟨r9, hr9⟩ : ∃ r : Ro, r = ⟨39, 1, .slice A9 m c9, m, u32s (wordsAt 256 st.xs y.b m)⟩ := ⟨_, rfl⟩
        have HI5 := hide_ (show GInv F w9 B q0 k st (ex ++ [r9]) from HI4.out.push hb9 (by rw [hr9]; exact ho9))
        have HP5 := hide_ (show OwnsF F w9 w9 B (rowsG q0 st (ex ++ [r9]) ++ [wordR ⟨Al, cc, wordsAt 256 st.xs y.b m⟩]) from by
          have h1 := (HP4.out.push hb9 (r := r9) (by rw [hr9]; exact ho9) HI4.out.base).rebase
          refine h1.perm fun cnt one k1 k2 k3 => ?_
          rw [rowsG_ex]
          simp only [k1, k2, k3]
          omega)
        have HB5 := hide_ (HB4.out.trans (hb9.mono HB4.out.size))
        have HR9 := hide_ hr9
        clear hr9 ho9 hb9 HRW HI4 HP4 HB4
        go_upto_region 6 with (fail)
        obtain ⟨At, ct, etv, _, _⟩ := ownsRow_slice (HI5.out.own.at_ (i := 4) rfl)
        have HTV := hide_ (show st.wv = .slice At st.words.length ct from etv)
        have h5 : w9.cell? ⟨q0, 5, none⟩ = some (.slice At st.words.length ct) := by rw [← HTV.out]; exact HP5.out.cell (i := 0) (j := 5) rfl rfl
        have HR3 := hide_ (show (rowsG q0 st (ex ++ [r9]) ++ [wordR ⟨Al, cc, wordsAt 256 st.xs y.b m⟩])[4]? = some ⟨40, 1, .slice At st.words.length ct, st.words.length, st.words.map fun x => .slice x.A x.xs.length x.c⟩ by rw [← HTV.out]; rfl)
        have HTL := hide_ HI5.out.wl
        have HBS := hide_ HI5.out.base
        have zq : q0 < w9.heap.size := (HP5.out.base (i := 0) rfl).2
        obtain ⟨i0, hi0, hz0, hz1, hz2⟩ := info_parts apk_infoB
        clear etv
        go_wp2_with (at_builtin; refine wpList_append_ownsF _ rfl (.tmp 57) (.tmp 59) 35 rfl B _ 4 40 1 (.slice At st.words.length ct) st.words.length (st.words.map fun x => .slice x.A x.xs.length x.c) HR3.out (HP5.out.alloc _) (by have := HBS.out; rw [World.size_alloc]; omega) i0 _ 24 Try.underlying35 hi0 hz0 hz1 hz2 rfl (by omega) rfl _ _ 1 1 [.slice Al m cc] rfl (reads_new w9 40 1 1 [.slice Al m cc] rfl) (by simp [Value.oneCell']) (by have := HTL.out; simp only [maxLen]; omega) (by have := HTL.out; omega) ?_)
        intro v2 w10 hO2 hb2 hsz2
        have HO2 := hide_ hO2
        have HB10 := hide_ (show Below B w9 w10 from (Below.alloc (Below.refl _ _) HBS.out _).trans hb2)
        have hv2 := HO2.out.at_ (i := 4) rfl
        dsimp only at hv2
        obtain ⟨A5, c5, rfl, _, _⟩ := ownsRow_slice hv2
        have h5 : w10.cell? ⟨q0, 5, none⟩ = some (.slice At st.words.length ct) := by
          have h9 := HO2.out.cell (i := 0) (j := 5) (u := st.wv) rfl rfl
          rw [h9, HTV.out]
        have f5 : w10.frozen? ⟨q0, 5, none⟩ = false := HO2.out.frozen (i := 0) rfl 5
        have zq : q0 < w10.heap.size := (HO2.out.base (i := 0) rfl).2
        obtain ⟨w11, hw11⟩ : ∃ W, W = w10.setCell ⟨q0, 5, none⟩ (.slice A5 (st.words.length + 1) c5) := ⟨_, rfl⟩
        have HO11 := hide_ (show OwnsF F w9 w11 B (rowsG q0 { st with wv := .slice A5 (st.words.length + 1) c5, words := st.words ++ [⟨Al, cc, wordsAt 256 st.xs y.b m⟩] } (ex ++ [r9])) by
          rw [hw11]
          exact words_rows (t := ⟨Al, cc, wordsAt 256 st.xs y.b m⟩) rfl (by rw [wordsAt_len]) (HO2.out.store (i := 0) rfl (j := 5) (by simp) _))
        have HB11 := hide_ (show Below B w9 w11 by rw [hw11]; exact HB10.out.setCell (p := ⟨q0, 5, none⟩) (HO2.out.base (i := 0) rfl).1 _)
        have HI11 := hide_ (show GInv F w11 B q0 (k + 1) { st with wv := .slice A5 (st.words.length + 1) c5, words := st.words ++ [⟨Al, cc, wordsAt 256 st.xs y.b m⟩] } (ex ++ [r9]) from
          ⟨HO11.out.rebase, Nat.le_trans HBS.out HB11.out.size, fun y hy => (HI5.out.gok y hy).keep (fun k hk => (HO11.out.old k hk).2) HB11.out.size, HI5.out.pos, by have := HI5.out.gl; show st.gs.length ≤ k + 1 + 2; omega, by have := HI5.out.tl; show st.told.length ≤ k + 1; omega, by have := HI5.out.wl; show (st.words ++ [(⟨Al, cc, wordsAt 256 st.xs y.b m⟩ : KV)]).length ≤ k + 1; rw [List.length_append]; simp; omega, HI5.out.len, HI5.out.ok, HI5.out.tn, (fun t ht => (List.mem_append.1 ht).elim (fun ht => HI5.out.wn t ht) (fun ht => by rw [List.mem_singleton.1 ht]; show (wordsAt 256 st.xs y.b m).length ≤ 35184372088000; rw [wordsAt_len]; have := HM15.out; omega))⟩)
        have HRL11 := hide_ (show Reads w11 w11.heap.size 1 Al m (u32s (wordsAt 256 st.xs y.b m)) from by
          have h9 := HO11.out.own.1 (wordR ⟨Al, cc, wordsAt 256 st.xs y.b m⟩) (by unfold rowsG; simp)
          have h8 : w11.ownsRow B 39 1 (.slice Al (wordsAt 256 st.xs y.b m).length cc) (wordsAt 256 st.xs y.b m).length (u32s (wordsAt 256 st.xs y.b m)) := h9
          rw [wordsAt_len] at h8
          exact Reads.of_own h8)
        clear hv2 hO2 hb2 hsz2
        go_upto_region 7 with (fail)
        rw [← hw11]
        clear hw11 h5 f5 zq HO2 HB10
        have HRW11 := hide_ (show Reads w11 w11.heap.size 1 A9 m (u32s (wordsAt 256 st.xs y.b m)) from by
          have h9 := HO11.out.own.1 r9 (by unfold rowsG; simp)
          rw [HR9.out] at h9
          exact Reads.of_own h9)
        have HSM := hide_ (SameWords_any Al A9 m cc m c9 (wordsAt 256 st.xs y.b m) (wordsAt 256 st.xs y.b m) w11.heap.size w11 HRL11.out HRW11.out (by have := HM15.out; unfold maxLen; omega) (by have := HM15.out; unfold maxLen; omega))
        go_wp2_with fail
        refine HSM.out.mono ?_
        rintro e w12 ⟨rfl, nq, rfl⟩
        simp only [decide_true]
        have HI12 := hide_ (HI11.out.drop.below (below_draws2 (Below.refl _ _) nq))
        have HB12 := hide_ (show Below B W (w11.drewN nq) from (HW1.out.mono HBW.out).trans ((HB5.out.mono HI1.out.base).trans (below_draws2 HB11.out nq)))
        clear HSM
        go_wp2_with fail
        exact bodyPost_ret (v := .bool true) (by simp [results, Try.results19, go_sem]) rfl ⟨rfl, _, HI12.out, HB12.out⟩
end
end Go.Proofs.Ytcfpclhoockcfaa
