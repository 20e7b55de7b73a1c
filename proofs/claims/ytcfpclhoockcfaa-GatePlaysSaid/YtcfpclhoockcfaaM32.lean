/-
  The world of GatePlays: Less asked: one gate more.
-/
import Derived.Test.YtcfpclhoockcfaaM31
namespace Go.Proofs.Ytcfpclhoockcfaa
open Go.RowKit Go.PlainAid Go.BigFrame
set_option linter.unusedVariables false
set_option linter.unusedSimpArgs false
set_option maxRecDepth 100000
theorem gptr_info : (Try.prog.info? 25).map (fun i => (i.zero, i.size, i.bytes)) = some (some (.pointer none), 1, 8) := by kernel_rfl
section
variable {F G : Nat → Prop} {w0 w w' : World} {B : Nat} {rs : List Ro}
theorem OwnsF.more (h : OwnsF F w w B rs) (hG : ∀ j, G j → j < w.heap.size ∧ ∀ r ∈ rs, r.v.ownBlock ≠ some j) : OwnsF (fun j => F j ∨ G j) w w B rs :=
  ⟨h.own, fun j hj => hj.elim (fun hj => h.old j hj) (fun hj => ⟨(hG j hj).1, rfl⟩), fun j hj => hj.elim (fun hj => h.far j hj) (fun hj => (hG j hj).2)⟩
theorem OwnsF.told (h : OwnsF F w0 w B rs) (hb : Below w.heap.size w w') {A : Option Addr} {n c size : Nat} {e : TypeId} {xs : List Value} (ho : w'.ownsRow w.heap.size e size (.slice A n c) n xs) :
    OwnsF (fun j => F j ∨ ∃ ad, A = some ad ∧ j = ad.block) w' w' B rs := by
  refine (h.below hb).rebase.more ?_
  rintro j ⟨ad, rfl, rfl⟩
  rcases ho.2 with ⟨h2, _⟩ | ⟨g, cap, cur, hv, hB, hg, _⟩
  · injection h2 with h2; cases h2
  · injection hv with hv
    injection hv with hv
    subst hv
    refine ⟨(Array.getElem?_eq_some_iff.1 hg).1, fun r hr he => ?_⟩
    have h1 := (h.own.lt_ hr he).2
    have h3 : w.heap.size ≤ g := hB
    have h4 : g < w.heap.size := h1
    omega
end
section
variable {F F' : Nat → Prop} {W W' : World} {B q0 k : Nat} {st : GW} {ex : List Ro}
theorem GateOk.mono {x : GV} (h : GateOk F W x) (hF : ∀ j, F j → F' j) : GateOk F' W x := ⟨h.at_, h.ok, hF _ h.fq, fun m hm => hF _ (h.fm m hm), h.rd, fun h0 ad e => hF _ (h.fa h0 ad e)⟩
theorem GInv.grow {G : Nat → Prop} (h : GInv F W B q0 k st ex) (hG : ∀ j, G j → j < W.heap.size ∧ ∀ r ∈ rowsG q0 st ex, r.v.ownBlock ≠ some j) : GInv (fun j => F j ∨ G j) W B q0 k st ex :=
  ⟨h.own.more hG, h.base, fun x hx => (h.gok x hx).mono (fun j hj => .inl hj), h.pos, h.gl, h.tl, h.wl, h.len, h.ok, h.tn, h.wn⟩
/-- the rows when a gate has come to the gates, and not yet to the lists -/
def rowsL (q0 : Nat) (st : GW) (v : Value) (q : Nat) (ex : List Ro) : List Ro :=
  ((rowsG q0 st ex).set 1 ⟨25, 1, v, st.gs.length + 1, (st.gs.map fun x => .pointer (some ⟨x.q, 0, none⟩)) ++ [.pointer (some ⟨q, 0, none⟩)]⟩).set 0 ⟨37, 1, .slice (some ⟨q0, 0, none⟩) 6 6, 6, [v, st.rv, .pointer (some ⟨st.g, 0, none⟩), .slice st.AD 256 st.cD, st.tv, st.wv]⟩
theorem less_rows {w0 : World} {v v2 : Value} {x : GV}
    (h : OwnsF F w0 W B (((rowsL q0 st v x.q ex).set 2 ⟨22, 1, v2, st.gs.length + 1, (st.gs.map fun x => .slice x.A x.l.length x.c) ++ [.slice x.A x.l.length x.c]⟩).set 0 ⟨37, 1, .slice (some ⟨q0, 0, none⟩) 6 6, 6, [v, v2, .pointer (some ⟨st.g, 0, none⟩), .slice st.AD 256 st.cD, st.tv, st.wv]⟩)) :
    OwnsF F w0 W B (rowsG q0 { st with gs := st.gs ++ [x], gv := v, rv := v2 } ex) := by
  have e1 : (st.gs ++ [x]).length = st.gs.length + 1 := by simp
  have e2 : ((st.gs ++ [x]).map fun x => Value.pointer (some ⟨x.q, 0, none⟩)) = (st.gs.map fun x => Value.pointer (some ⟨x.q, 0, none⟩)) ++ [.pointer (some ⟨x.q, 0, none⟩)] := by simp
  have e3 : ((st.gs ++ [x]).map fun x => Value.slice x.A x.l.length x.c) = (st.gs.map fun x => Value.slice x.A x.l.length x.c) ++ [.slice x.A x.l.length x.c] := by simp
  unfold rowsG headG
  dsimp only
  rw [e1, e2, e3]
  exact h
theorem less_gate {Fa : Nat → Prop} {A : Option Addr} {c q n : Nat} {D : MD} {l : List (Int × Int)} {os : List Int} (hl : LOk l) (hD : Is D l) (hg : GateAt W q (delAll D os)) (hq : Fa q) (hm : ∀ m, W.cell? ⟨q, 0, none⟩ = some (.map (some m)) → Fa m)
    (hA : W.ownsRow n 68 2 (.slice A (lessL l os).length c) (lessL l os).length (gCells (lessL l os))) (hf : ∀ ad, A = some ad → Fa ad.block) : GateOk Fa W ⟨q, A, c, lessL l os⟩ :=
  ⟨⟨_, hD.less os, hg⟩, hl.less os, hq, hm, GReads.of_reads (Reads.of_own hA), fun _ => hf⟩
theorem less_end {F1 : Nat → Prop} {W6 W8 w9 w10 : World} {v v2 : Value} {q n c5 b : Nat} {A : Option Addr} {l : List (Int × Int)} {os : List Int} {D : MD} (hI : GInv F1 W6 B q0 k st ex) (h8 : OwnsF F1 W6 W8 B (rowsL q0 st v q ex)) (hz : W6.heap.size ≤ W8.heap.size) (h9 : Below W8.heap.size W8 w9)
    (hl : LOk l) (hD : Is D l) (hg : GateAt W8 q (delAll D os)) (hf : F1 q ∧ ∀ m, W6.cell? ⟨q, 0, none⟩ = some (.map (some m)) → F1 m) (hn : n = st.gs.length) (hB : B ≤ w9.heap.size)
    (hw : w9.ownsRow b 68 2 (.slice A (lessL l os).length c5) (lessL l os).length (gCells (lessL l os)))
    (h10 : OwnsF (fun j => F1 j ∨ ∃ ad, A = some ad ∧ j = ad.block) w9 w10 B ((rowsL q0 st v q ex).set 2 ⟨22, 1, v2, n + 1, (st.gs.map fun x => .slice x.A x.l.length x.c) ++ [.slice A (lessL l os).length c5]⟩)) (hb : Below B w9 w10) :
    GInv (fun j => F1 j ∨ ∃ ad, A = some ad ∧ j = ad.block) (w10.setCell ⟨q0, 1, none⟩ v2) B q0 (k + 1) { st with gs := st.gs ++ [⟨q, A, c5, lessL l os⟩], gv := v, rv := v2 } ex ∧ Below B w9 (w10.setCell ⟨q0, 1, none⟩ v2) := by
  subst hn
  have h11 := less_rows (x := ⟨q, A, c5, lessL l os⟩) (h10.store (i := 0) rfl (j := 1) (by simp) v2)
  have hb11 : Below B w9 (w10.setCell ⟨q0, 1, none⟩ v2) := hb.setCell (p := ⟨q0, 1, none⟩) (h10.base (i := 0) rfl).1 _
  have hnew : GateOk (fun j => F1 j ∨ ∃ ad, A = some ad ∧ j = ad.block) w9 ⟨q, A, c5, lessL l os⟩ :=
    less_gate hl hD (hg.below h9) (.inl hf.1) (fun m hm => .inl (hf.2 m (by rw [← hm]; exact (World.cell?_of_block (a := ⟨q, 0, none⟩) ((h9.block q (h8.old q hf.1).1).trans (h8.old q hf.1).2)).symm))) hw (fun ad e => .inr ⟨ad, e, rfl⟩)
  refine ⟨⟨h11.rebase, Nat.le_trans hB hb11.size, fun z hz' => ?_, ?_, ?_, ?_, ?_, hI.len, hI.ok, hI.tn, hI.wn⟩, hb11⟩
  · rcases List.mem_append.1 hz' with hz' | hz'
    · exact (((hI.gok z hz').keep (fun k hk => ((h9.block k (h8.old k hk).1).trans (h8.old k hk).2)) (Nat.le_trans hz h9.size)).mono (fun j hj => .inl hj)).keep (fun k hk => (h11.old k hk).2) hb11.size
    · rw [List.mem_singleton.1 hz']
      exact hnew.keep (fun k hk => (h11.old k hk).2) hb11.size
  · show 0 < (st.gs ++ [(⟨q, A, c5, lessL l os⟩ : GV)]).length
    rw [List.length_append]; exact Nat.succ_pos _
  · have := hI.gl
    show (st.gs ++ [(⟨q, A, c5, lessL l os⟩ : GV)]).length ≤ k + 1 + 2
    rw [List.length_append]
    show st.gs.length + 1 ≤ k + 1 + 2
    omega
  · have := hI.tl
    show st.told.length ≤ k + 1
    omega
  · have := hI.wl
    show st.words.length ≤ k + 1
    omega
end
section
variable {F : Nat → Prop} {W W' : World} {B q0 k : Nat} {st : GW} {ex : List Ro}
set_option maxHeartbeats 4000000 in
theorem lessAsked_any (h : GInv F W B q0 k st ex) (i : Nat) (hi : i < st.gs.length) (hk : k ≤ 5000000000000) (y : AskV) (hy : AskOk W B y) :
    Calls Try.prog 24 #[.pointer (some ⟨q0, 0, none⟩), .int .i64 i, .agg (askC y)] W fun e W' => e = .returned (.bool true) ∧ ∃ F' st', GInv F' W' B q0 (k + 1) st' ex ∧ Below B W W' := by
  obtain ⟨x, hx⟩ : ∃ x, st.gs[i]? = some x := ⟨_, List.getElem?_eq_getElem hi⟩
  have hxm := List.mem_of_getElem? hx
  obtain ⟨D, hD, _⟩ := (h.gok x hxm).at_
  obtain ⟨W1, hW1⟩ : ∃ W1, W1 = W.alloc (.cells (askC y) 45) := ⟨_, rfl⟩
  have HW1 := hide_ (show Below W.heap.size W W1 by rw [hW1]; exact (Below.refl _ _).alloc (Nat.le_refl _) _)
  have HK0 := hide_ (show Blk W1 W.heap.size 45 (askC y) by rw [hW1]; exact Blk.new W _ _)
  have HI1 := hide_ (h.below HW1.out)
  have HY1 := hide_ (hy.below (HW1.out.mono h.base))
  have HBX := hide_ (fun W2 (hb : Below W1.heap.size W1 W2) => show W2.cell? ⟨W.heap.size, 5, none⟩ = some (.slice y.LA y.ln y.lc) ∧ W.heap.size < W2.heap.size from
    ⟨(HK0.out.below hb HK0.out.lt).cell 5, (HK0.out.below hb HK0.out.lt).lt⟩)
  have HGT := hide_ (fun W2 (h2 : GInv F W2 B q0 k st ex) => h2.gate hx)
  have HLS := hide_ (fun W2 (h2 : GInv F W2 B q0 k st ex) (A : Option Addr) (c : Nat) (hr : Reads W2 W2.heap.size 1 A y.ln (u32s y.os)) => show Calls Try.prog 46 #[.pointer (some ⟨x.q, 0, none⟩), .slice A y.ln c] W2 fun e w' => ∃ q' Dx, e = .returned (.tuple #[.pointer (some ⟨q', 0, none⟩), .int .i64 0]) ∧ Is Dx x.l ∧ GateAt w' q' (delAll Dx y.os) ∧ GateNew W2 w' q' ∧ Below W2.heap.size W2 w' from by
    obtain ⟨Dx, hDx, hgx⟩ := (h2.gok x hxm).at_
    refine (Less_any x.q Dx A y.ln c y.os W2 hgx hr hy.lw (by have := hy.ln; omega)).mono ?_
    rintro e w' ⟨q', rfl, k1, k2, k3⟩
    exact ⟨q', Dx, rfl, hDx, k1, k2, k3⟩)
  have HOK := hide_ (h.gok x hxm).ok
  have HBW := hide_ h.base
  have HXM := hide_ hxm
  have HX := hide_ hx
  have HQ0 := hide_ (h.own.base (i := 0) rfl).2
  have HWG := hide_ (fun j (hj : st.gv.ownBlock = some j) => (h.own.own.lt_ (List.mem_of_getElem? (show (rowsG q0 st ex)[1]? = some _ from rfl)) hj).2)
  have HWB := hide_ (fun j (hj : st.rv.ownBlock = some j) => (h.own.own.lt_ (List.mem_of_getElem? (show (rowsG q0 st ex)[2]? = some _ from rfl)) hj).2)
  have hil : (i : Int) < (st.gs.length : Int) := by omega
  have HKK := hide_ hk
  clear h hx hxm hy hD hk
  unfold askC at hW1 ⊢
  obtain ⟨bg, cg, br, cr, eg, er, ⟨f0, f1, f2, f3⟩, ⟨z0, z1, z2⟩, _⟩ := HGT.out W1 HI1.out
  obtain ⟨x5, z3⟩ := HBX.out W1 (Below.refl _ _)
  obtain ⟨gn, hgn⟩ : ∃ n, n = st.gs.length := ⟨_, rfl⟩
  rw [← hgn] at f0 f1 hil
  have HGN := hide_ hgn
  clear eg er hgn hi
  have HLW := hide_ (LentWords_any y.LA y.ln y.lc y.os B W1 HY1.out.ls HI1.out.base HY1.out.ln)
  go_enter Try.func24, Try.ntmps24
  go_upto_region 1 with (fail)
  rw [← hW1]
  clear hW1
  go_wp2_with fail
  refine HLW.out.mono ?_
  rintro e W3 ⟨vl, rfl, hol, hb3⟩
  obtain ⟨gl, cl, rfl⟩ := ownsRow_some hol (by omega)
  have HOL := hide_ hol
  have HB3 := hide_ hb3
  have HGL := hide_ (hol.lt gl rfl)
  have hcl : y.ln + 64 ≤ cl := cap_of hol
  have hlc : y.ln ≤ cl := by omega
  clear hol hb3 HLW f0 f1 f2 f3 z0 z1 z2 x5 z3 hcl
  have HI3 := hide_ (HI1.out.below HB3.out)
  obtain ⟨bg, cg, br, cr, eg, er, ⟨f0, _, f2, _⟩, ⟨z0, z1, z2⟩, _⟩ := HGT.out W3 HI3.out
  obtain ⟨x5, z3⟩ := HBX.out W3 HB3.out
  rw [← HGN.out] at f0
  clear eg er
  have HOSL := hide_ (show (u32s y.os).length = y.ln from by simpa [u32s] using HY1.out.ls.1)
  go_upto_region 2 with (fail)
  obtain ⟨Wd, hWd⟩ : ∃ w, w = W3.drew := ⟨_, rfl⟩
  have HBd := hide_ (show Below W3.heap.size W3 Wd by rw [hWd]; exact (Below.refl _ _).drew)
  have HWD := hide_ hWd
  clear hWd
  have HId := hide_ (HI3.out.below HBd.out)
  have HB1d := hide_ (HB3.out.trans (HBd.out.mono HB3.out.size))
  have HRL := hide_ (show Reads Wd Wd.heap.size 1 (some ⟨gl, 0, none⟩) (y.ln + 64) (u32s (y.os ++ marksW 64)) from ((Reads.of_own HOL.out).below HBd.out).more HBd.out.size)
  have HLSd := hide_ (HLS.out Wd HId.out (some ⟨gl, 0, none⟩) cl (by
    have h1 := HRL.out
    have e : u32s (y.os ++ marksW 64) = u32s y.os ++ u32s (marksW 64) := by simp [u32s]
    rw [e] at h1
    exact Reads.pre h1 HOSL.out))
  go_region_held3 (fun w' => w'.cell? ⟨q0, 0, none⟩ = some (.slice (some ⟨bg, 0, none⟩) gn cg) ∧ w'.cell? ⟨bg, i, none⟩ = some (.pointer (some ⟨x.q, 0, none⟩)) ∧ w'.cell? ⟨W.heap.size, 5, none⟩ = some (.slice y.LA y.ln y.lc))
    (first | exact ⟨f0, f2, x5⟩ | exact ⟨(HB34.out.cell (p := ⟨q0, 0, none⟩) z0).trans f0, (HB34.out.cell (p := ⟨bg, i, none⟩) z1).trans f2, (HB34.out.cell (p := ⟨W.heap.size, 5, none⟩) z3).trans x5⟩)
    ((go_at_call 46; rw [← HWD.out]; refine HLSd.out.mono ?_; rintro e W4 ⟨q', Dx, rfl, hDx, hga, hgn, hb4⟩; have HB34 := hide_ (HBd.out.trans (hb4.mono HBd.out.size))))
  clear f0 f2 z0 z1 z2 x5 z3 HB34
  have HGA4 := hide_ hga
  have HGN4 := hide_ hgn
  have HDX := hide_ hDx
  have HBd4 := hide_ hb4
  have HB14 := hide_ (HB1d.out.trans (hb4.mono HB1d.out.size))
  clear hga hgn hDx hb4
  obtain ⟨x5, z3⟩ := HBX.out W4 HB14.out
  have HY4 := hide_ (HY1.out.below (HB14.out.mono HI1.out.base))
  have HBZ4 := hide_ (Nat.le_trans HI1.out.base HB14.out.size)
  have HKW := hide_ (KeptWords_any (some ⟨gl, 0, none⟩) y.LA (y.ln + 64) cl y.ln y.lc (y.os ++ marksW 64) y.os W4.heap.size W4 ((HRL.out.below HBd4.out).more HBd4.out.size) (HY4.out.ls.more HBZ4.out) (by have := HY1.out.ln; unfold maxLen; omega) (by have := HY1.out.ln; unfold maxLen; omega))
  go_upto_region 3 with (fail)
  go_wp2_with fail
  refine HKW.out.mono ?_
  rintro e w5 ⟨rfl, nq5, rfl⟩
  simp only [decide_true]
  obtain ⟨W5, hW5⟩ : ∃ w, w = W4.drewN nq5 := ⟨_, rfl⟩
  have HB45 := hide_ (show Below W4.heap.size W4 W5 by rw [hW5]; exact below_draws2 (Below.refl _ _) nq5)
  rw [← hW5]
  clear hW5 HKW x5 z3
  have HBd5 := hide_ (HBd4.out.trans (HB45.out.mono HBd4.out.size))
  have HB35 := hide_ (HBd.out.trans (HBd5.out.mono HBd.out.size))
  have HB15 := hide_ (HB14.out.trans (HB45.out.mono HB14.out.size))
  have HOV := hide_ (OverWords_any gl (y.ln + 64) cl W1.heap.size (y.os ++ marksW 64) W5 (by have := HY1.out.ln; omega) (by simpa [u32s] using HOL.out.1) (Owns.below (w := W3) ⟨fun r hr => by rw [List.mem_singleton.1 hr]; exact HOL.out, List.pairwise_singleton _ _⟩ HB35.out) HB15.out.size)
  go_upto_region 5 with (fail)
  go_wp2_with fail
  refine HOV.out.mono ?_
  rintro e W6 ⟨rfl, hb6, hg6⟩
  have HB16 := hide_ (HB15.out.trans hb6)
  have HG6 := hide_ hg6
  have HI6 := hide_ (HI1.out.below HB16.out)
  have HSM := hide_ (fun k (h1 : Wd.heap.size ≤ k) (h2 : k < W4.heap.size) => show W6.heap[k]? = W4.heap[k]? from
    (hg6.block k (Nat.lt_of_lt_of_le h2 HB45.out.size) (fun e => by injection e with e; have := HGL.out.2; have := HBd.out.size; omega)).trans (HB45.out.block k h2))
  have HZ46 := hide_ (Nat.le_trans HB45.out.size hb6.size)
  have HQ4 := hide_ (show q' < W4.heap.size ∧ Wd.heap.size ≤ q' from ⟨by obtain ⟨m, n, _, h2, _⟩ := HGA4.out; exact h2, HGN4.out.1⟩)
  have HM4 := hide_ (fun m (hm : W4.cell? ⟨q', 0, none⟩ = some (.map (some m))) => show m < W4.heap.size ∧ Wd.heap.size ≤ m from ⟨by
    obtain ⟨m1, n, h1, _, h3, _⟩ := HGA4.out
    rw [h1] at hm
    injection hm with hm
    injection hm with hm
    injection hm with hm
    omega, HGN4.out.2 m hm⟩)
  have HQC := hide_ (show W6.cell? ⟨q', 0, none⟩ = W4.cell? ⟨q', 0, none⟩ from World.cell?_of_block (a := ⟨q', 0, none⟩) (HSM.out q' HQ4.out.2 HQ4.out.1))
  have HGA6 := hide_ (show GateAt W6 q' (delAll Dx y.os) from HGA4.out.same HZ46.out (HSM.out q' HQ4.out.2 HQ4.out.1) (fun m hm => HSM.out m (HM4.out m hm).2 (HM4.out m hm).1))
  obtain ⟨F1, hF1⟩ : ∃ f : Nat → Prop, f = fun j => F j ∨ (j = q' ∨ W6.cell? ⟨q', 0, none⟩ = some (.map (some j))) := ⟨_, rfl⟩
  have HI6g := hide_ (show GInv F1 W6 B q0 k st ex by
    rw [hF1]
    refine HI6.out.grow (fun j hj => ?_)
    have hj2 : j < W4.heap.size ∧ Wd.heap.size ≤ j := by
      rcases hj with rfl | hj
      · exact HQ4.out
      · exact HM4.out j (by rw [← HQC.out]; exact hj)
    refine ⟨Nat.lt_of_lt_of_le hj2.1 HZ46.out, fun r hr he => ?_⟩
    have h1 := (HI1.out.own.own.lt_ hr he).2
    have h2 := HB1d.out.size
    omega)
  have HFQ := hide_ (show F1 q' ∧ ∀ m, W6.cell? ⟨q', 0, none⟩ = some (.map (some m)) → F1 m by rw [hF1]; exact ⟨.inr (.inl rfl), fun m hm => .inr (.inr hm)⟩)
  clear hb6 hg6 HOV hF1
  obtain ⟨At, ct, etv, _, _⟩ := ownsRow_slice (HI6g.out.own.at_ (i := 1) rfl)
  have HTV := hide_ (show st.gv = .slice At st.gs.length ct from etv)
  have h0 : W6.cell? ⟨q0, 0, none⟩ = some (.slice At st.gs.length ct) := by rw [← HTV.out]; exact HI6g.out.own.cell (i := 0) (j := 0) rfl rfl
  have HR1 := hide_ (show (rowsG q0 st ex)[1]? = some ⟨25, 1, .slice At st.gs.length ct, st.gs.length, st.gs.map fun x => .pointer (some ⟨x.q, 0, none⟩)⟩ by rw [← HTV.out]; rfl)
  have HTL := hide_ HI6g.out.gl
  have HBS := hide_ HI6g.out.base
  have zq : q0 < W6.heap.size := (HI6g.out.own.base (i := 0) rfl).2
  obtain ⟨i0, hi0, hz0, hz1, hz2⟩ := info_parts gptr_info
  clear etv
  go_upto_region 6 with (fail)
  go_wp2_with (at_builtin; refine wpList_append_ownsFG _ rfl (.tmp 48) (.tmp 50) 33 rfl B _ 1 25 1 (.slice At st.gs.length ct) st.gs.length (st.gs.map fun x => .pointer (some ⟨x.q, 0, none⟩)) HR1.out (HI6g.out.own.alloc _) (by have := HBS.out; rw [World.size_alloc]; omega) i0 _ 8 Try.underlying33 hi0 hz0 hz1 hz2 rfl (by omega) rfl _ _ 1 1 [.pointer (some ⟨q', 0, none⟩)] rfl (reads_new W6 25 1 1 [.pointer (some ⟨q', 0, none⟩)] rfl) (by simp [Value.oneCell']) (by have := HTL.out; have := HKK.out; simp only [maxLen]; omega) (by have := HTL.out; have := HKK.out; omega) ?_)
  intro v2 w7 hO2 hb2 hg2
  have HO2 := hide_ hO2
  have HK7 := hide_ (show w7.heap[W.heap.size]? = W6.heap[W.heap.size]? from
    (hg2.block W.heap.size (Nat.lt_of_lt_of_le HK0.out.lt (Nat.le_trans HB16.out.size (Below.alloc (Below.refl W6.heap.size W6) (Nat.le_refl _) _).size)) (fun e => by have := HWG.out W.heap.size (by rw [HTV.out]; exact e.symm); omega)).trans (((Below.refl W6.heap.size W6).alloc (Nat.le_refl _) _).block W.heap.size (Nat.lt_of_lt_of_le HK0.out.lt HB16.out.size)))
  have HB67 := hide_ (show Below B W6 w7 from (Below.alloc (Below.refl _ _) HBS.out _).trans hb2)
  have hv2 := HO2.out.at_ (i := 1) rfl
  dsimp only at hv2
  obtain ⟨A5, c5, rfl, _, _⟩ := ownsRow_slice hv2
  have h0 : w7.cell? ⟨q0, 0, none⟩ = some (.slice At st.gs.length ct) := (HO2.out.cell (i := 0) (j := 0) (u := st.gv) rfl rfl).trans (by rw [HTV.out])
  have f0 : w7.frozen? ⟨q0, 0, none⟩ = false := HO2.out.frozen (i := 0) rfl 0
  have zq : q0 < w7.heap.size := (HO2.out.base (i := 0) rfl).2
  obtain ⟨W8, hW8⟩ : ∃ W, W = w7.setCell ⟨q0, 0, none⟩ (.slice A5 (st.gs.length + 1) c5) := ⟨_, rfl⟩
  have HO8 := hide_ (show OwnsF F1 W6 W8 B (rowsL q0 st (.slice A5 (st.gs.length + 1) c5) q' ex) by
    rw [hW8]
    exact HO2.out.store (i := 0) rfl (j := 0) (by simp) _)
  have HB68 := hide_ (show Below B W6 W8 by rw [hW8]; exact HB67.out.setCell (p := ⟨q0, 0, none⟩) (HO2.out.base (i := 0) rfl).1 _)
  have HK8 := hide_ (show W8.heap[W.heap.size]? = W6.heap[W.heap.size]? by
    rw [hW8]
    exact (Below.heap_setCell w7 ⟨q0, 0, none⟩ _ W.heap.size (fun e => by have := HQ0.out; have : W.heap.size = q0 := e; omega)).trans HK7.out)
  clear hv2 hO2 hb2 hg2
  go_upto_region 7 with (fail)
  rw [← hW8]
  clear hW8 h0 f0 zq HO2 HB67 HK7
  obtain ⟨bg, cg, br, cr, eg, er, _, _, _⟩ := HGT.out W6 HI6.out
  have HR2 := hide_ (show (rowsL q0 st (.slice A5 (st.gs.length + 1) c5) q' ex)[2]? = some ⟨22, 1, .slice (some ⟨br, 0, none⟩) gn cr, gn, st.gs.map fun x => .slice x.A x.l.length x.c⟩ by rw [HGN.out, ← er]; rfl)
  have f1 : W8.cell? ⟨q0, 1, none⟩ = some (.slice (some ⟨br, 0, none⟩) gn cr) := by rw [HGN.out, ← er]; exact HO8.out.cell (i := 0) (j := 1) rfl rfl
  have f3 : W8.cell? ⟨br, i, none⟩ = some (.slice x.A x.l.length x.c) := HO8.out.cell (i := 2) HR2.out (by rw [List.getElem?_map, HX.out]; rfl)
  have z0 := (HO8.out.base (i := 0) rfl).2
  have z2 := (HO8.out.base (i := 2) HR2.out).2
  have hkb : Blk W8 W.heap.size 45 (askC y) := HK8.out.trans (HK0.out.below HB16.out HK0.out.lt)
  have x5 : W8.cell? ⟨W.heap.size, 5, none⟩ = some (.slice y.LA y.ln y.lc) := hkb.cell 5
  have z3 := hkb.lt
  have HER := hide_ er
  have HB18 := hide_ (show Below B W1 W8 from (HB16.out.mono HI1.out.base).trans HB68.out)
  have HBZ8 := hide_ (Nat.le_trans HBS.out HB68.out.size)
  have HGX8 := hide_ ((HI6g.out.gok x HXM.out).keep (fun k hk => (HO8.out.old k hk).2) HB68.out.size)
  have HRL8 := hide_ (rLess_any x.A y.LA x.l.length x.c y.ln y.lc W8.drew.heap.size x.l y.os W8.drew (show GReads W8.drew W8.drew.heap.size x.A x.l.length x.l from HGX8.out.rd.below ((Below.refl W8.heap.size W8).drew)) (show Reads W8.drew W8.drew.heap.size 1 y.LA y.ln (u32s y.os) from ((HY1.out.below HB18.out).ls.below ((Below.refl B W8).drew)).more HBZ8.out) (Nat.le_refl _) (by have := HOK.out.few; omega) (by have := HY1.out.ln; omega))
  obtain ⟨i1, hi1, hy0, hy1, hy2⟩ := info_parts apk_infoG
  have hgb : gn ≤ 5000000000002 := by have := HTL.out; have := HKK.out; have := HGN.out; omega
  have HGB := hide_ hgb
  have HG8 := hide_ (show GateAt W8 q' (delAll Dx y.os) from HGA6.out.same HB68.out.size (HO8.out.old q' HFQ.out.1).2 (fun m hm => (HO8.out.old m (HFQ.out.2 m hm)).2))
  clear hkb hgb eg er
  go_region_law (first
    | (refine step_append_ownsFG _ (by rfl) (.tmp 58) (.tmp 69) 34 (by rfl) B _ 2 22 1 (.slice (some ⟨br, 0, none⟩) gn cr) gn (st.gs.map fun x => .slice x.A x.l.length x.c) HR2.out (by first | exact HO9.out.alloc _ | exact (HO9.out.alloc _).drew | exact (HO9.out.drew.alloc _)) (Nat.le_trans HBZ9.out (by first | exact ((Below.refl w9.heap.size w9).alloc (Nat.le_refl _) _).size | exact (((Below.refl w9.heap.size w9).alloc (Nat.le_refl _) _).drew).size | exact ((((Below.refl w9.heap.size w9).drew).alloc (Nat.le_refl _) _)).size)) i1 _ 24 Try.underlying34 hi1 hy0 hy1 hy2 rfl (by omega) (by rfl) _ _ 1 1 [.slice A9 (lessL x.l y.os).length c9] (by rfl) (reads_new w9 22 1 1 [.slice A9 (lessL x.l y.os).length c9] rfl) (by simp [Value.oneCell']) (by have := HGB.out; simp only [maxLen]; omega) (by have := HGB.out; omega) ?_;
       intro v2 w10 hO2 hb2 hg2;
       have HO10 := hide_ hO2;
       have HB10 := hide_ (show Below B w9 w10 from by first | exact ((Below.alloc (Below.refl _ _) HBZ9.out _)).trans hb2 | exact ((Below.alloc (Below.refl _ _) HBZ9.out _).drew).trans hb2 | exact ((Below.alloc (Below.refl _ _).drew HBZ9.out _)).trans hb2);
       have hv2 := HO10.out.at_ (i := 2) rfl;
       dsimp only at hv2;
       obtain ⟨A10, c10, rfl, _, _⟩ := ownsRow_slice hv2;
       have h5 : w10.cell? ⟨q0, 1, none⟩ = some (.slice (some ⟨br, 0, none⟩) gn cr) := (HO10.out.cell (i := 0) (j := 1) (u := st.rv) rfl rfl).trans (by rw [HGN.out, HER.out]);
       have f5 : w10.frozen? ⟨q0, 1, none⟩ = false := HO10.out.frozen (i := 0) rfl 1;
       have zq : q0 < w10.heap.size := (HO10.out.base (i := 0) rfl).2;
       clear hO2 hb2 hg2 hv2)
    | (go_simp; go_at_call 47; refine HRL8.out.mono ?_; rintro e w9 ⟨v9, rfl, ho9, hb9⟩; obtain ⟨A9, c9, rfl, _, _⟩ := ownsRow_slice ho9; have HO9 := hide_ ((HO8.out.drew).told hb9 ho9); have HOW9 := hide_ ho9; have HB9 := hide_ (show Below W8.heap.size W8 w9 from ev_to hb9 (Below.refl _ _).drew); have HBZ9 := hide_ (Nat.le_trans HBZ8.out HB9.out.size); have f1' := (HB9.out.cell (p := ⟨q0, 1, none⟩) z0).trans f1; have z0' := Nat.lt_of_lt_of_le z0 HB9.out.size; clear ho9 hb9; dsimp only))
  all_goals
    obtain ⟨W11, hW11⟩ : ∃ W, W = w10.setCell ⟨q0, 1, none⟩ (.slice A10 (gn + 1) c10) := ⟨_, rfl⟩
    have HE := hide_ (less_end HI6g.out HO8.out HB68.out.size HB9.out HOK.out HDX.out HG8.out HFQ.out HGN.out HBZ9.out HOW9.out HO10.out HB10.out)
    rw [← hW11] at HE
    have HBF := hide_ (show Below B W W11 from (HW1.out.mono HBW.out).trans (HB18.out.trans ((HB9.out.mono HBZ8.out).trans HE.out.2)))
    rw [← hW11]
    clear hW11 h5 f5 zq HO10 f1' z0' HB10 HB9 HBZ9 HOW9 HO9
    go_wp2_with fail
    exact bodyPost_ret (v := .bool true) (by simp [results, Try.results24, go_sem]) rfl ⟨rfl, _, _, HE.out.1, HBF.out⟩
end
end Go.Proofs.Ytcfpclhoockcfaa
