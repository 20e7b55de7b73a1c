/-
  AsmCheck: asm.Check and the document's Check answer alike of every object, and leave it as it was.
-/
import Derived.Test.YtnkfjileaonemaaGreatDoorSeeO
import Derived.Test.YtnkfjileaonemaaGreatDoorAChk
import Derived.Test.YtnkfjileaonemaaGreatDoorARChk
namespace Go.Proofs.YtnkfjileaonemaaGreatDoor
open Go.RowKit Go.PlainAid Go.BigFrame
set_option linter.unusedSimpArgs false
set_option linter.unusedVariables false
set_option maxRecDepth 100000
theorem objV_cut (x : ObjV) (A C L F T E : Option Addr) (b0 b1 b2 b3 b4 b5 : Nat) : objV x ⟨⟨C, b0⟩, ⟨A, b1⟩, ⟨L, b2⟩, ⟨F, b3⟩, ⟨T, b4⟩, ⟨E, b5⟩⟩ = #[.slice C x.code.length b0, .slice A x.data.length b1, .int .u32 x.zero, .int .u32 x.stack, .slice L x.labels.length b2, .slice F x.fixes.length b3, .slice T x.targets.length b4, .slice E x.entries.length b5] := rfl
set_option maxHeartbeats 16000000 in
theorem AsmCheck_walk (x : ObjV) (s : ObjS) (w : World) (hx : ObjOk x) (hf : ObjFit x) (hr : ObjR w w.heap.size x s) : Calls Tryz.prog 3 #[.agg (objV x s)] w fun e w' => e = .returned (.bool true) ∧ Below w.heap.size w w' := by
  have HLO := hide_ (fun W (hw : Below w.heap.size w W) => LentObject_any x s W hx hf ((hr.below hw).more hw.size))
  have HRC := hide_ (fun W (hw : Below w.heap.size w W) => rcheck_any x s W hx ((hr.below hw).more hw.size))
  have HKO := hide_ (fun W s' (hw : Below w.heap.size w W) (ha : ObjR W W.heap.size (fullO x) s') => KeptObject_any x s' s W.heap.size W hx hf ha ((hr.below hw).more hw.size) (Nat.le_refl _))
  have HCK := hide_ (fun W s' (ha : ObjR W W.heap.size (fullO x) s') => acheck_any x s' W hx ha.pre)
  obtain ⟨⟨aC, a0⟩, ⟨aD, a1⟩, ⟨aL, a2⟩, ⟨aF, a3⟩, ⟨aT, a4⟩, ⟨aE, a5⟩⟩ := s
  dsimp only [objV] at HLO HRC ⊢
  have HFUL := hide_ (fun s' => objV_full x s')
  obtain ⟨n, hn⟩ : ∃ n, n = x.code.length := ⟨_, rfl⟩
  obtain ⟨nd, hnd⟩ : ∃ n, n = x.data.length := ⟨_, rfl⟩
  obtain ⟨nl, hnl⟩ : ∃ n, n = x.labels.length := ⟨_, rfl⟩
  obtain ⟨nf, hnf⟩ : ∃ n, n = x.fixes.length := ⟨_, rfl⟩
  obtain ⟨nt, hnt⟩ : ∃ n, n = x.targets.length := ⟨_, rfl⟩
  obtain ⟨ne, hne⟩ : ∃ n, n = x.entries.length := ⟨_, rfl⟩
  obtain ⟨z, hz⟩ : ∃ z, z = x.zero := ⟨_, rfl⟩
  obtain ⟨sk, hsk⟩ : ∃ z, z = x.stack := ⟨_, rfl⟩
  rw [← hn, ← hnd, ← hnl, ← hnf, ← hnt, ← hne, ← hz, ← hsk] at HLO HRC ⊢
  have HN := hide_ (And.intro hn (And.intro hnd (And.intro hnl (And.intro hnf (And.intro hnt (And.intro hne (And.intro hz hsk)))))))
  clear hn hnd hnl hnf hnt hne hz hsk hr
  obtain ⟨W1, hW1⟩ : ∃ W, W = w.alloc (.cells #[.slice aC n a0, .slice aD nd a1, .int .u32 z, .int .u32 sk, .slice aL nl a2, .slice aF nf a3, .slice aT nt a4, .slice aE ne a5] 30) := ⟨_, rfl⟩
  have f0 : W1.cell? ⟨w.heap.size, 0, none⟩ = some (.slice aC n a0) := by rw [hW1]; go_simp
  have f1 : W1.cell? ⟨w.heap.size, 1, none⟩ = some (.slice aD nd a1) := by rw [hW1]; go_simp
  have f2 : W1.cell? ⟨w.heap.size, 2, none⟩ = some (.int .u32 z) := by rw [hW1]; go_simp
  have f3 : W1.cell? ⟨w.heap.size, 3, none⟩ = some (.int .u32 sk) := by rw [hW1]; go_simp
  have f4 : W1.cell? ⟨w.heap.size, 4, none⟩ = some (.slice aL nl a2) := by rw [hW1]; go_simp
  have f5 : W1.cell? ⟨w.heap.size, 5, none⟩ = some (.slice aF nf a3) := by rw [hW1]; go_simp
  have f6 : W1.cell? ⟨w.heap.size, 6, none⟩ = some (.slice aT nt a4) := by rw [hW1]; go_simp
  have f7 : W1.cell? ⟨w.heap.size, 7, none⟩ = some (.slice aE ne a5) := by rw [hW1]; go_simp
  have HB1 := hide_ (show Below w.heap.size w W1 by rw [hW1]; exact (Below.refl _ _).alloc (Nat.le_refl _) _)
  have hlt0 : w.heap.size < W1.heap.size := by rw [hW1]; simp
  go_enter Tryz.func3, Tryz.ntmps3
  go_upto_region 1 with (fail)
  rw [← hW1]
  clear hW1
  go_wp2_with fail
  refine (HLO.out _ HB1.out).mono ?_
  rintro e W2 ⟨⟨⟨bC, b0⟩, ⟨bD, b1⟩, ⟨bL, b2⟩, ⟨bF, b3⟩, ⟨bT, b4⟩, ⟨bE, b5⟩⟩, rfl, HO, hc, hb2⟩
  have HR2 := hide_ (ownO_R HO hc)
  replace HO := hide_ HO
  rw [objV_full, objV_cut]
  have HCK2 := hide_ (fun W (ha : ObjR W W.heap.size (fullO x) ⟨⟨bC, b0⟩, ⟨bD, b1⟩, ⟨bL, b2⟩, ⟨bF, b3⟩, ⟨bT, b4⟩, ⟨bE, b5⟩⟩) => HCK.out W _ ha)
  have HKO2 := hide_ (fun W (hw : Below w.heap.size w W) (ha : ObjR W W.heap.size (fullO x) ⟨⟨bC, b0⟩, ⟨bD, b1⟩, ⟨bL, b2⟩, ⟨bF, b3⟩, ⟨bT, b4⟩, ⟨bE, b5⟩⟩) => HKO.out W _ hw ha)
  rw [objV_full] at HKO2
  dsimp only [objV] at HCK2 HKO2
  obtain ⟨hn, hnd, hnl, hnf, hnt, hne, hz, hsk⟩ := HN.out
  dsimp only
  rw [← hn, ← hnd, ← hnl, ← hnf, ← hnt, ← hne, ← hz, ← hsk] at HCK2 HKO2 ⊢
  clear hn hnd hnl hnf hnt hne hz hsk hc HN
  have f0 := (hb2.cell (p := ⟨w.heap.size, 0, none⟩) hlt0).trans f0
  have f1 := (hb2.cell (p := ⟨w.heap.size, 1, none⟩) hlt0).trans f1
  have f2 := (hb2.cell (p := ⟨w.heap.size, 2, none⟩) hlt0).trans f2
  have f3 := (hb2.cell (p := ⟨w.heap.size, 3, none⟩) hlt0).trans f3
  have f4 := (hb2.cell (p := ⟨w.heap.size, 4, none⟩) hlt0).trans f4
  have f5 := (hb2.cell (p := ⟨w.heap.size, 5, none⟩) hlt0).trans f5
  have f6 := (hb2.cell (p := ⟨w.heap.size, 6, none⟩) hlt0).trans f6
  have f7 := (hb2.cell (p := ⟨w.heap.size, 7, none⟩) hlt0).trans f7
  have hlt0 := Nat.lt_of_lt_of_le hlt0 hb2.size
  have HB2 := hide_ (HB1.out.trans (hb2.mono HB1.out.size))
  clear hb2 HB1
  obtain ⟨W3, hW3⟩ : ∃ W, W = (W2.alloc (.cells #[.slice bC n b0, .slice bD nd b1, .int .u32 z, .int .u32 sk, .slice bL nl b2, .slice bF nf b3, .slice bT nt b4, .slice bE ne b5] 30)).alloc (.cells #[.slice bC (n + 64) b0, .slice bD (nd + 64) b1, .int .u32 z, .int .u32 sk, .slice bL (nl + 64) b2, .slice bF (nf + 64) b3, .slice bT (nt + 64) b4, .slice bE (ne + 64) b5] 30) := ⟨_, rfl⟩
  go_upto_region 2 with (fail)
  rw [← hW3]
  have hb3 : Below W2.heap.size W2 W3 := by rw [hW3]; exact ((Below.refl _ _).alloc (Nat.le_refl _) _).alloc (by simp) _
  have p0 : W3.cell? ⟨W2.heap.size, 0, none⟩ = some (.slice bC n b0) := by rw [hW3]; go_simp
  have p1 : W3.cell? ⟨W2.heap.size, 1, none⟩ = some (.slice bD nd b1) := by rw [hW3]; go_simp
  have p2 : W3.cell? ⟨W2.heap.size, 2, none⟩ = some (.int .u32 z) := by rw [hW3]; go_simp
  have p3 : W3.cell? ⟨W2.heap.size, 3, none⟩ = some (.int .u32 sk) := by rw [hW3]; go_simp
  have p4 : W3.cell? ⟨W2.heap.size, 4, none⟩ = some (.slice bL nl b2) := by rw [hW3]; go_simp
  have p5 : W3.cell? ⟨W2.heap.size, 5, none⟩ = some (.slice bF nf b3) := by rw [hW3]; go_simp
  have p6 : W3.cell? ⟨W2.heap.size, 6, none⟩ = some (.slice bT nt b4) := by rw [hW3]; go_simp
  have p7 : W3.cell? ⟨W2.heap.size, 7, none⟩ = some (.slice bE ne b5) := by rw [hW3]; go_simp
  have q0 : W3.cell? ⟨W2.heap.size + 1, 0, none⟩ = some (.slice bC (n + 64) b0) := by rw [hW3]; go_simp
  have q1 : W3.cell? ⟨W2.heap.size + 1, 1, none⟩ = some (.slice bD (nd + 64) b1) := by rw [hW3]; go_simp
  have q2 : W3.cell? ⟨W2.heap.size + 1, 2, none⟩ = some (.int .u32 z) := by rw [hW3]; go_simp
  have q3 : W3.cell? ⟨W2.heap.size + 1, 3, none⟩ = some (.int .u32 sk) := by rw [hW3]; go_simp
  have q4 : W3.cell? ⟨W2.heap.size + 1, 4, none⟩ = some (.slice bL (nl + 64) b2) := by rw [hW3]; go_simp
  have q5 : W3.cell? ⟨W2.heap.size + 1, 5, none⟩ = some (.slice bF (nf + 64) b3) := by rw [hW3]; go_simp
  have q6 : W3.cell? ⟨W2.heap.size + 1, 6, none⟩ = some (.slice bT (nt + 64) b4) := by rw [hW3]; go_simp
  have q7 : W3.cell? ⟨W2.heap.size + 1, 7, none⟩ = some (.slice bE (ne + 64) b5) := by rw [hW3]; go_simp
  have f0 := (hb3.cell (p := ⟨w.heap.size, 0, none⟩) hlt0).trans f0
  have f1 := (hb3.cell (p := ⟨w.heap.size, 1, none⟩) hlt0).trans f1
  have f2 := (hb3.cell (p := ⟨w.heap.size, 2, none⟩) hlt0).trans f2
  have f3 := (hb3.cell (p := ⟨w.heap.size, 3, none⟩) hlt0).trans f3
  have f4 := (hb3.cell (p := ⟨w.heap.size, 4, none⟩) hlt0).trans f4
  have f5 := (hb3.cell (p := ⟨w.heap.size, 5, none⟩) hlt0).trans f5
  have f6 := (hb3.cell (p := ⟨w.heap.size, 6, none⟩) hlt0).trans f6
  have f7 := (hb3.cell (p := ⟨w.heap.size, 7, none⟩) hlt0).trans f7
  have hlt0 := Nat.lt_of_lt_of_le hlt0 hb3.size
  have hlt2 : W2.heap.size < W3.heap.size := by rw [hW3]; simp; omega
  have hlt3 : W2.heap.size + 1 < W3.heap.size := by rw [hW3]; simp
  have HR3 := hide_ ((HR2.out.below hb3).more hb3.size)
  have HB3 := hide_ (HB2.out.trans (hb3.mono HB2.out.size))
  clear hb3 hW3 HB2 HR2 HO
  go_wp2_with fail
  refine (HCK2.out W3 HR3.out).mono ?_
  rintro e W4 ⟨rfl, hb4⟩
  have f0 := (hb4.cell (p := ⟨w.heap.size, 0, none⟩) hlt0).trans f0
  have f1 := (hb4.cell (p := ⟨w.heap.size, 1, none⟩) hlt0).trans f1
  have f2 := (hb4.cell (p := ⟨w.heap.size, 2, none⟩) hlt0).trans f2
  have f3 := (hb4.cell (p := ⟨w.heap.size, 3, none⟩) hlt0).trans f3
  have f4 := (hb4.cell (p := ⟨w.heap.size, 4, none⟩) hlt0).trans f4
  have f5 := (hb4.cell (p := ⟨w.heap.size, 5, none⟩) hlt0).trans f5
  have f6 := (hb4.cell (p := ⟨w.heap.size, 6, none⟩) hlt0).trans f6
  have f7 := (hb4.cell (p := ⟨w.heap.size, 7, none⟩) hlt0).trans f7
  have p0 := (hb4.cell (p := ⟨W2.heap.size, 0, none⟩) hlt2).trans p0
  have p1 := (hb4.cell (p := ⟨W2.heap.size, 1, none⟩) hlt2).trans p1
  have p2 := (hb4.cell (p := ⟨W2.heap.size, 2, none⟩) hlt2).trans p2
  have p3 := (hb4.cell (p := ⟨W2.heap.size, 3, none⟩) hlt2).trans p3
  have p4 := (hb4.cell (p := ⟨W2.heap.size, 4, none⟩) hlt2).trans p4
  have p5 := (hb4.cell (p := ⟨W2.heap.size, 5, none⟩) hlt2).trans p5
  have p6 := (hb4.cell (p := ⟨W2.heap.size, 6, none⟩) hlt2).trans p6
  have p7 := (hb4.cell (p := ⟨W2.heap.size, 7, none⟩) hlt2).trans p7
  have q0 := (hb4.cell (p := ⟨W2.heap.size + 1, 0, none⟩) hlt3).trans q0
  have q1 := (hb4.cell (p := ⟨W2.heap.size + 1, 1, none⟩) hlt3).trans q1
  have q2 := (hb4.cell (p := ⟨W2.heap.size + 1, 2, none⟩) hlt3).trans q2
  have q3 := (hb4.cell (p := ⟨W2.heap.size + 1, 3, none⟩) hlt3).trans q3
  have q4 := (hb4.cell (p := ⟨W2.heap.size + 1, 4, none⟩) hlt3).trans q4
  have q5 := (hb4.cell (p := ⟨W2.heap.size + 1, 5, none⟩) hlt3).trans q5
  have q6 := (hb4.cell (p := ⟨W2.heap.size + 1, 6, none⟩) hlt3).trans q6
  have q7 := (hb4.cell (p := ⟨W2.heap.size + 1, 7, none⟩) hlt3).trans q7
  have hlt0 := Nat.lt_of_lt_of_le hlt0 hb4.size
  have hlt3 := Nat.lt_of_lt_of_le hlt3 hb4.size
  have HR4 := hide_ ((HR3.out.below hb4).more hb4.size)
  have HB4 := hide_ (HB3.out.trans (hb4.mono HB3.out.size))
  clear hb4 HB3 HR3 p0 p1 p2 p3 p4 p5 p6 p7
  obtain ⟨cv, hcv⟩ : ∃ c, c = chkV x := ⟨_, rfl⟩
  rw [← hcv] at HRC ⊢
  clear hcv
  go_wp2_with fail
  refine (HRC.out _ HB4.out).mono ?_
  rintro e W5 ⟨rfl, hb5⟩
  have f0 := (hb5.cell (p := ⟨w.heap.size, 0, none⟩) hlt0).trans f0
  have f1 := (hb5.cell (p := ⟨w.heap.size, 1, none⟩) hlt0).trans f1
  have f2 := (hb5.cell (p := ⟨w.heap.size, 2, none⟩) hlt0).trans f2
  have f3 := (hb5.cell (p := ⟨w.heap.size, 3, none⟩) hlt0).trans f3
  have f4 := (hb5.cell (p := ⟨w.heap.size, 4, none⟩) hlt0).trans f4
  have f5 := (hb5.cell (p := ⟨w.heap.size, 5, none⟩) hlt0).trans f5
  have f6 := (hb5.cell (p := ⟨w.heap.size, 6, none⟩) hlt0).trans f6
  have f7 := (hb5.cell (p := ⟨w.heap.size, 7, none⟩) hlt0).trans f7
  have q0 := (hb5.cell (p := ⟨W2.heap.size + 1, 0, none⟩) hlt3).trans q0
  have q1 := (hb5.cell (p := ⟨W2.heap.size + 1, 1, none⟩) hlt3).trans q1
  have q2 := (hb5.cell (p := ⟨W2.heap.size + 1, 2, none⟩) hlt3).trans q2
  have q3 := (hb5.cell (p := ⟨W2.heap.size + 1, 3, none⟩) hlt3).trans q3
  have q4 := (hb5.cell (p := ⟨W2.heap.size + 1, 4, none⟩) hlt3).trans q4
  have q5 := (hb5.cell (p := ⟨W2.heap.size + 1, 5, none⟩) hlt3).trans q5
  have q6 := (hb5.cell (p := ⟨W2.heap.size + 1, 6, none⟩) hlt3).trans q6
  have q7 := (hb5.cell (p := ⟨W2.heap.size + 1, 7, none⟩) hlt3).trans q7
  have HR5 := hide_ ((HR4.out.below hb5).more hb5.size)
  have HB5 := hide_ (HB4.out.trans (hb5.mono HB4.out.size))
  clear hb5 HB4 HR4
  go_wp2_with fail
  refine (HKO2.out _ HB5.out HR5.out).mono ?_
  rintro e W6 ⟨rfl, hb6⟩
  have HB6 := hide_ (HB5.out.trans (hb6.mono HB5.out.size))
  clear hb6 HB5 HR5 f0 f1 f2 f3 f4 f5 f6 f7 q0 q1 q2 q3 q4 q5 q6 q7
  go_wp2
  go_ret
  exact ⟨rfl, HB6.out⟩
theorem AsmCheck_raw {H : Type} {enc : TypeId × Value → H} {base : Nat} (v : Value) (w : World) (hv : Value.okWide Tryz.prog w .any base 30 v) (h : Seen enc Tryz.prog w true 30 v.cells.toList) :
    Calls Tryz.prog 3 #[v] w fun e w' => e = .returned (.bool true) ∧ Below w.heap.size w w' := by
  obtain ⟨x, s, rfl, h1, h2, h3⟩ := obj_arg hv h
  exact AsmCheck_walk x s w h1 h2 h3
end Go.Proofs.YtnkfjileaonemaaGreatDoor
