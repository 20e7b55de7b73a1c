/-
  The walks of gate's Event, of a gate that was made; playpenkit.SameEvent.
-/
import Derived.Test.YtcfpclhoockcfaaM16
namespace Go.Proofs.Ytcfpclhoockcfaa
open Go.RowKit Go.Maps
set_option linter.unusedVariables false

section
variable {W : World}
/-- an event's cells -/
def evCells (a x v : Int) (A : Option Addr) (n c : Nat) : Array Value := #[.int .u32 a, .int .u32 x, .slice A n c, .int .u32 v]
theorem ev_row {w : World} {B B' b n : Nat} {e : TypeId} {v : Value} {xs : List Value} (h : w.ownsRow B e 1 v n xs) (hB : B' ≤ B) (hb : b < B) (u0 u1 u2 u3 : Value) :
    ((((w.setCell ⟨b, 0, none⟩ u0).setCell ⟨b, 1, none⟩ u1).setCell ⟨b, 2, none⟩ u2).setCell ⟨b, 3, none⟩ u3).ownsRow B' e 1 v n xs := by
  have hne : v.ownBlock ≠ some b := fun e => by have := (h.lt b e).1; omega
  have h4 := (((h.kept (grownBy_setCell w b 0 u0) (.inr hne)).kept (grownBy_setCell _ b 1 u1) (.inr hne)).kept (grownBy_setCell _ b 2 u2) (.inr hne)).kept (grownBy_setCell _ b 3 u3) (.inr hne)
  refine ⟨h4.1, ?_⟩
  rcases h4.2 with h5 | ⟨g, cap, cur, hv, hg0, rest⟩
  · exact .inl h5
  · exact .inr ⟨g, cap, cur, hv, by omega, rest⟩
set_option maxRecDepth 100000 in
set_option maxHeartbeats 1000000 in
theorem Event_ok (q : Nat) (D : MD) (a x v : Int) (A A2 : Option Addr) (n c n2 c2 : Nat) (ns : List Int) (ws : Nat → Wr) (h : GateAt W q D) (hx : (Lit.int .u32 x).wf = true) (hh : Maps.has D (kx x) = true) (hat : D.atKey (kx x) z0 = .lit (.int .i64 (n : Nat)))
    (hr : Reads W W.heap.size 1 A n (u32s ns)) (hn : n * 4 ≤ 140737488351232) (hw : WReads W W.heap.size A2 n2 ws) (hn2 : n2 ≤ maxLen) (hfit : fitsN n2 ws n2 = true) :
    Calls Try.prog 35 #[.pointer (some ⟨q, 0, none⟩), .int .u32 a, .int .u32 x, .slice A n c, .agg #[.int .u32 v, .slice A2 n2 c2]] W fun e w' => ∃ A' c', e = .returned (.tuple #[.agg (evCells a x v A' n c'), .int .i64 0]) ∧
      w'.ownsRow W.heap.size 39 1 (.slice A' n c') n (u32s ns) ∧ Below W.heap.size W w' := by
  obtain ⟨W2, hW2⟩ : ∃ W2, W2 = ((W.alloc (.cells #[.int .u32 v, .slice A2 n2 c2] 43)).alloc (.cells #[.int .u32 0, .int .u32 0, .slice none 0 0, .int .u32 0] 84)) := ⟨_, rfl⟩
  have hb : Below W.heap.size W W2 := by rw [hW2]; exact ((Below.refl _ _).alloc (Nat.le_refl _) _).alloc (by simp) _
  have hk1 : Blk W2 W.heap.size 43 #[.int .u32 v, .slice A2 n2 c2] := by rw [hW2]; exact (Blk.new W _ _).alloc _
  have hk2 : Blk W2 (W.heap.size + 1) 84 #[.int .u32 0, .int .u32 0, .slice none 0 0, .int .u32 0] := by
    rw [hW2]
    have := Blk.new (W.alloc (.cells #[.int .u32 v, .slice A2 n2 c2] 43)) 84 #[.int .u32 0, .int .u32 0, .slice none 0 0, .int .u32 0]
    rw [World.size_alloc] at this
    exact this
  have hsz : W.heap.size + 1 < W2.heap.size := hk2.lt
  have hg := Granted_any q D x W2 (h.below hb) hx
  rw [hh] at hg
  obtain ⟨m, k, c1, l1, s1, o1, _⟩ := h.below hb
  have hm := hide_ (gmade_any q m W2 c1)
  have hf := gFits_any v A2 n2 c2 W2.heap.size ws W2 ((hw.below hb).more hb.size) (Nat.le_refl _) hn2
  rw [hfit] at hf
  have HF := hide_ hf
  have HG := hide_ hg
  have HAT := hide_ hat
  have HB := hide_ hb
  have HK := hide_ (show Blk W2 W.heap.size 43 #[.int .u32 v, .slice A2 n2 c2] ∧ Blk W2 (W.heap.size + 1) 84 #[.int .u32 0, .int .u32 0, .slice none 0 0, .int .u32 0] from ⟨hk1, hk2⟩)
  have HR := hide_ hr
  have r0 := hk1.cell 0
  have r1 := hk1.cell 1
  have hrs : W.heap.size < W2.heap.size := hk1.lt
  have d0 : ((n : Int) != (n : Int)) = false := by simp
  clear h hx hh hat hr hw hfit hb hk1 hk2 hg hf o1 c1
  have HE : Hid (W2 = ((W.alloc (.cells #[.int .u32 v, .slice A2 n2 c2] 43)).alloc (.cells #[.int .u32 0, .int .u32 0, .slice none 0 0, .int .u32 0] 84))) := hide_ hW2
  clear hW2
  go_enter Try.func35, Try.ntmps35
  go_wp2_with fail
  rw [← HE.out]
  clear HE
  refine HG.out.mono ?_
  rintro e w1 ⟨c', rfl, hc', hw⟩
  subst w1
  have ec : c' = (n : Int) := by
    rw [HAT.out] at hc'
    exact (congrArg (fun d : MD => match d with | .lit (.int _ a) => a | _ => 0) hc').symm
  subst ec
  clear hc'
  go_wp2_with fail
  refine hm.out.mono ?_
  rintro e w1 ⟨rfl, hw⟩
  subst w1
  go_wp2_with fail
  refine HF.out.mono ?_
  rintro e w3 ⟨rfl, hb3⟩
  have hk1 := HK.out.1.below hb3 hrs
  have hk2 := HK.out.2.below hb3 hsz
  have HB3 := hide_ (HB.out.trans (hb3.mono HB.out.size))
  have hr3 := (HR.out.below HB3.out).more HB3.out.size
  have hcl := hide_ (fun nq : Nat => wordsClone_any A n c ns (w3.drewN nq) hr3 hn)
  have r0' := hk1.cell 0
  have q0 := hk2.cell 0
  have q1 := hk2.cell 1
  have q2 := hk2.cell 2
  have q3 := hk2.cell 3
  have HK3 := hide_ (show Blk w3 W.heap.size 43 #[.int .u32 v, .slice A2 n2 c2] ∧ Blk w3 (W.heap.size + 1) 84 #[.int .u32 0, .int .u32 0, .slice none 0 0, .int .u32 0] from ⟨hk1, hk2⟩)
  have HARM : Hid (∀ (nq : Nat) (w4 : World), Below (w3.drewN nq).heap.size (w3.drewN nq) w4 → Blk w4 (W.heap.size + 1) 84 #[.int .u32 0, .int .u32 0, .slice none 0 0, .int .u32 0] ∧ Below W.heap.size W w4 ∧ w4.cell? ⟨W.heap.size, 0, none⟩ = some (.int .u32 v) ∧ w4.cell? ⟨W.heap.size + 1, 0, none⟩ = some (.int .u32 0) ∧ w4.cell? ⟨W.heap.size + 1, 1, none⟩ = some (.int .u32 0) ∧ w4.cell? ⟨W.heap.size + 1, 2, none⟩ = some (.slice none 0 0) ∧ w4.cell? ⟨W.heap.size + 1, 3, none⟩ = some (.int .u32 0) ∧
      w4.frozen? ⟨W.heap.size + 1, 0, none⟩ = false ∧ w4.frozen? ⟨W.heap.size + 1, 1, none⟩ = false ∧ w4.frozen? ⟨W.heap.size + 1, 2, none⟩ = false ∧ w4.frozen? ⟨W.heap.size + 1, 3, none⟩ = false ∧ W.heap.size + 1 < w4.heap.size) := hide_ fun nq w4 hb4 => by
    have k1 := (HK3.out.1.drewN nq).below hb4 (HK3.out.1.drewN nq).lt
    have k2 := (HK3.out.2.drewN nq).below hb4 (HK3.out.2.drewN nq).lt
    exact ⟨k2, (below_draws2 HB3.out nq).trans (hb4.mono (below_draws2 HB3.out nq).size), k1.cell 0, k2.cell 0, k2.cell 1, k2.cell 2, k2.cell 3, k2.frozen 0, k2.frozen 1, k2.frozen 2, k2.frozen 3, k2.lt⟩
  clear hb3 hk1 hk2 hr3 r0 r1
  go_wp2
  go_region_with (go_at_call 55; refine (hcl.out _).mono ?_; rintro e w4 ⟨A', c', rfl, hown, hb4⟩; obtain ⟨k2, hB4, r4, p0, p1, p2, p3, g0, g1, g2, g3, hs4⟩ := HARM.out _ _ hb4; have K2 := hide_ k2; have HB4 := hide_ hB4; have HOWN := hide_ hown; clear k2 hB4 hown hb4)
  all_goals
    go_wp2
    exact bodyPost_ret (v := .tuple #[.agg (evCells a x v A' n c'), .int .i64 0]) (by simp [results, Try.results35, go_sem, evCells, p0, p1, p2, p3]) rfl
      ⟨A', c', rfl, ev_row HOWN.out (show W.heap.size ≤ w3.heap.size from HB3.out.size) (show W.heap.size + 1 < w3.heap.size from HK3.out.2.lt) _ _ _ _, (((HB4.out.setCell (p := ⟨W.heap.size + 1, 0, none⟩) (Nat.le_succ _) _).setCell (p := ⟨W.heap.size + 1, 1, none⟩) (Nat.le_succ _) _).setCell (p := ⟨W.heap.size + 1, 2, none⟩) (Nat.le_succ _) _).setCell (p := ⟨W.heap.size + 1, 3, none⟩) (Nat.le_succ _) _⟩
def evZero : Array Value := #[.int .u32 0, .int .u32 0, .slice none 0 0, .int .u32 0]
set_option maxRecDepth 100000 in
set_option maxHeartbeats 1000000 in
/-- what is wrong with a call: its number, its shape, its reply -/
theorem Event_no (q : Nat) (D : MD) (a x v : Int) (A A2 : Option Addr) (n c n2 c2 : Nat) (ws : Nat → Wr) (h : GateAt W q D) (hx : (Lit.int .u32 x).wf = true) (m : Int) (hat : Maps.has D (kx x) = true → D.atKey (kx x) z0 = .lit (.int .i64 m))
    (hw : WReads W W.heap.size A2 n2 ws) (hn2 : n2 ≤ maxLen) (hbad : ¬ (Maps.has D (kx x) = true ∧ (n : Int) = m ∧ fitsN n2 ws n2 = true)) :
    Calls Try.prog 35 #[.pointer (some ⟨q, 0, none⟩), .int .u32 a, .int .u32 x, .slice A n c, .agg #[.int .u32 v, .slice A2 n2 c2]] W fun e w' => e = .returned (.tuple #[.agg evZero, .int .i64 (if Maps.has D (kx x) then (if (n : Int) = m then 5 else 162) else 161)]) ∧ Below W.heap.size W w' := by
  obtain ⟨W2, hW2⟩ : ∃ W2, W2 = ((W.alloc (.cells #[.int .u32 v, .slice A2 n2 c2] 43)).alloc (.cells #[.int .u32 0, .int .u32 0, .slice none 0 0, .int .u32 0] 84)) := ⟨_, rfl⟩
  have hb : Below W.heap.size W W2 := by rw [hW2]; exact ((Below.refl _ _).alloc (Nat.le_refl _) _).alloc (by simp) _
  have hk1 : Blk W2 W.heap.size 43 #[.int .u32 v, .slice A2 n2 c2] := by rw [hW2]; exact (Blk.new W _ _).alloc _
  have hk2 : Blk W2 (W.heap.size + 1) 84 #[.int .u32 0, .int .u32 0, .slice none 0 0, .int .u32 0] := by
    rw [hW2]
    have := Blk.new (W.alloc (.cells #[.int .u32 v, .slice A2 n2 c2] 43)) 84 #[.int .u32 0, .int .u32 0, .slice none 0 0, .int .u32 0]
    rw [World.size_alloc] at this
    exact this
  have hsz : W.heap.size + 1 < W2.heap.size := hk2.lt
  have hg := Granted_any q D x W2 (h.below hb) hx
  obtain ⟨hh, hhd⟩ : ∃ hh, hh = Maps.has D (kx x) := ⟨_, rfl⟩
  rw [← hhd] at hg hat hbad ⊢
  obtain ⟨m2, k, c1, l1, s1, o1, _⟩ := h.below hb
  have hm := hide_ (gmade_any q m2 W2 c1)
  have HG := hide_ hg
  have HAT := hide_ hat
  have HB := hide_ hb
  have HK := hide_ (show Blk W2 W.heap.size 43 #[.int .u32 v, .slice A2 n2 c2] ∧ Blk W2 (W.heap.size + 1) 84 #[.int .u32 0, .int .u32 0, .slice none 0 0, .int .u32 0] from ⟨hk1, hk2⟩)
  have r0 := hk1.cell 0
  have r1 := hk1.cell 1
  have hrs : W.heap.size < W2.heap.size := hk1.lt
  have HFP : Hid (∀ b : Bool, fitsN n2 ws n2 = b → Calls Try.prog 54 #[.agg #[.int .u32 v, .slice A2 n2 c2]] W2 fun e w' => e = .returned (.bool b) ∧ Below W2.heap.size W2 w') := hide_ fun b hb' => by
    rw [← hb']
    exact gFits_any v A2 n2 c2 W2.heap.size ws W2 ((hw.below hb).more hb.size) (Nat.le_refl _) hn2
  have HBAD := hide_ hbad
  have q0 := hk2.cell 0
  have q1 := hk2.cell 1
  have q2 := hk2.cell 2
  have q3 := hk2.cell 3
  have g0 := hk2.frozen 0
  have g1 := hk2.frozen 1
  have g2 := hk2.frozen 2
  have g3 := hk2.frozen 3
  have HFIN : Hid (∀ (w4 : World) (u0 u1 u2 u3 : Value), Below W.heap.size W w4 → Below W.heap.size W ((((w4.setCell ⟨W.heap.size + 1, 0, none⟩ u0).setCell ⟨W.heap.size + 1, 1, none⟩ u1).setCell ⟨W.heap.size + 1, 2, none⟩ u2).setCell ⟨W.heap.size + 1, 3, none⟩ u3)) := hide_ fun w4 u0 u1 u2 u3 h4 =>
    (((h4.setCell (p := ⟨W.heap.size + 1, 0, none⟩) (Nat.le_succ _) _).setCell (p := ⟨W.heap.size + 1, 1, none⟩) (Nat.le_succ _) _).setCell (p := ⟨W.heap.size + 1, 2, none⟩) (Nat.le_succ _) _).setCell (p := ⟨W.heap.size + 1, 3, none⟩) (Nat.le_succ _) _
  clear h hat hw hbad hb hk1 hk2 hg o1 c1 hhd
  have HE : Hid (W2 = ((W.alloc (.cells #[.int .u32 v, .slice A2 n2 c2] 43)).alloc (.cells #[.int .u32 0, .int .u32 0, .slice none 0 0, .int .u32 0] 84))) := hide_ hW2
  clear hW2
  cases hh with
  | false =>
    go_enter Try.func35, Try.ntmps35
    go_wp2_with fail
    rw [← HE.out]
    clear HE
    refine HG.out.mono ?_
    rintro e w1 ⟨c', rfl, hc', hw⟩
    subst w1
    clear hc'
    go_wp2_with fail
    refine hm.out.mono ?_
    rintro e w1 ⟨rfl, hw⟩
    subst w1
    go_wp2
    exact bodyPost_ret (v := .tuple #[.agg evZero, .int .i64 161]) (by simp [results, Try.results35, go_sem, evZero, q0, q1, q2, q3]) rfl ⟨rfl, HFIN.out _ _ _ _ _ HB.out⟩
  | true =>
    by_cases hnm : (n : Int) = m
    · subst hnm
      have hf : fitsN n2 ws n2 = false := by
        cases hf : fitsN n2 ws n2 with
        | false => rfl
        | true => exact absurd ⟨rfl, rfl, hf⟩ HBAD.out
      have HF := hide_ (HFP.out false hf)
      have d0 : ((n : Int) != (n : Int)) = false := by simp
      clear hf HFP
      go_enter Try.func35, Try.ntmps35
      go_wp2_with fail
      rw [← HE.out]
      clear HE
      refine HG.out.mono ?_
      rintro e w1 ⟨c', rfl, hc', hw⟩
      subst w1
      have ec : c' = (n : Int) := by
        rw [HAT.out (by trivial)] at hc'
        exact (congrArg (fun d : MD => match d with | .lit (.int _ a) => a | _ => 0) hc').symm
      subst ec
      clear hc'
      go_wp2_with fail
      refine hm.out.mono ?_
      rintro e w1 ⟨rfl, hw⟩
      subst w1
      go_wp2_with fail
      refine HF.out.mono ?_
      rintro e w3 ⟨rfl, hb3⟩
      have hk2 := HK.out.2.below hb3 hsz
      have HB3 := hide_ (HB.out.trans (hb3.mono HB.out.size))
      have p0 := hk2.cell 0
      have p1 := hk2.cell 1
      have p2 := hk2.cell 2
      have p3 := hk2.cell 3
      have e0 := hk2.frozen 0
      have e1 := hk2.frozen 1
      have e2 := hk2.frozen 2
      have e3 := hk2.frozen 3
      clear hb3 hk2 r0 r1 q0 q1 q2 q3 g0 g1 g2 g3
      go_wp2
      exact bodyPost_ret (v := .tuple #[.agg evZero, .int .i64 5]) (by simp [results, Try.results35, go_sem, evZero, p0, p1, p2, p3]) rfl ⟨by simp, HFIN.out _ _ _ _ _ HB3.out⟩
    · have HNM := hide_ hnm
      have d0 : ((n : Int) != m) = true := by simpa using hnm
      clear hnm
      go_enter Try.func35, Try.ntmps35
      go_wp2_with fail
      rw [← HE.out]
      clear HE
      refine HG.out.mono ?_
      rintro e w1 ⟨c', rfl, hc', hw⟩
      subst w1
      have ec : c' = m := by
        rw [HAT.out (by trivial)] at hc'
        exact (congrArg (fun d : MD => match d with | .lit (.int _ a) => a | _ => 0) hc').symm
      subst ec
      clear hc'
      go_wp2_with fail
      refine hm.out.mono ?_
      rintro e w1 ⟨rfl, hw⟩
      subst w1
      go_wp2
      exact bodyPost_ret (v := .tuple #[.agg evZero, .int .i64 162]) (by simp [results, Try.results35, go_sem, evZero, q0, q1, q2, q3]) rfl ⟨by simp, HFIN.out _ _ _ _ _ HB.out⟩
end
end Go.Proofs.Ytcfpclhoockcfaa
/-
  The walks of gate's Apply of any reply, of a segment whose log is off; playpenkit.SameEvent of two events that are the same.
-/
namespace Go.Proofs.Ytcfpclhoockcfaa
open Go.RowKit Go.Maps
set_option linter.unusedVariables false

set_option maxHeartbeats 1000000 in
theorem SameEvent_eq (a x v : Int) (A A' : Option Addr) (n c c' : Nat) (xs : List Int) (w : World) (ha : Reads w w.heap.size 1 A n (u32s xs)) (hb : Reads w w.heap.size 1 A' n (u32s xs)) (hn : n ≤ 140737488351232) :
    Calls Try.prog 40 #[.agg (evCells a x v A n c), .agg (evCells a x v A' n c')] w fun e w' => e = .returned (.bool true) ∧ Below w.heap.size w w' := by
  have hb2 : Below w.heap.size w ((w.alloc (.cells (evCells a x v A n c) 84)).alloc (.cells (evCells a x v A' n c') 84)) := ((Below.refl _ _).alloc (Nat.le_refl _) _).alloc (by simp) _
  have hs := SameWords_any A A' n c n c' xs xs ((w.alloc (.cells (evCells a x v A n c) 84)).alloc (.cells (evCells a x v A' n c') 84)).heap.size _ ((ha.below hb2).more hb2.size) ((hb.below hb2).more hb2.size) (by unfold maxLen; omega) (by unfold maxLen; omega)
  rw [decide_eq_true rfl] at hs
  have HS := hide_ hs
  have HB := hide_ hb2
  have da : (a == a) = true := by simp
  have dx : (x == x) = true := by simp
  have dv : (v == v) = true := by simp
  clear hs hb2 ha hb
  unfold evCells at *
  go_enter Try.func40, Try.ntmps40
  go_wp2_with fail
  refine HS.out.mono ?_
  rintro e w' ⟨rfl, nq, rfl⟩
  have HE := hide_ (below_draws2 HB.out nq)
  go_wp2
  go_ret
  exact ⟨rfl, HE.out⟩
/-- the bytes behind the first k writes -/
def applyW (N : Nat) (ws : Nat → Wr) (zs : Nat → List Int) (xs : List Int) : Nat → List Int
  | 0 => xs
  | k + 1 => puts N (ws k).at_ (zs k) (applyW N ws zs xs k) (ws k).n
/-- the writes of a reply, their bytes: nothing of it lies in the block d -/
structure ReplyAt (W : World) (d : Nat) (A : Option Addr) (n : Nat) (ws : Nat → Wr) (zs : Nat → List Int) : Prop where
  rd : WReads W W.heap.size A n ws
  far : ∀ ad, A = some ad → ad.block ≠ d
  wr : ∀ j, j < n → (0 ≤ (ws j).at_ ∧ (ws j).at_ < 4294967296) ∧ Reads W W.heap.size 1 (ws j).A (ws j).n (u8s (zs j)) ∧ bytesOk (zs j) ∧ ∀ ad, (ws j).A = some ad → ad.block ≠ d
theorem ReplyAt.kept {W W' : World} {d n : Nat} {A : Option Addr} {ws : Nat → Wr} {zs : Nat → List Int} (h : ReplyAt W d A n ws zs) (hg : W.grownBy W' (some d)) : ReplyAt W' d A n ws zs := by
  have hk : ∀ p : Addr, p.block < W.heap.size → p.block ≠ d → W'.cell? p = W.cell? p := fun p hp hne => World.cell?_of_block (hg.block p.block hp (fun e => hne (Option.some.inj e)))
  refine ⟨fun hn => ?_, h.far, fun j hj => ?_⟩
  · obtain ⟨ad, rfl, hb, hc⟩ := h.rd hn
    have hf := h.far ad rfl
    exact ⟨ad, rfl, Nat.lt_of_lt_of_le hb hg.size, fun j hj => ⟨(hk _ (by rw [block_of_add]; exact hb) (by rw [block_of_add]; exact hf)).trans (hc j hj).1, (hk _ (by show (ad.add (j * 2)).block < _; rw [block_of_add]; exact hb) (by show (ad.add (j * 2)).block ≠ _; rw [block_of_add]; exact hf)).trans (hc j hj).2⟩⟩
  · obtain ⟨h1, h2, h3, h4⟩ := h.wr j hj
    refine ⟨h1, ⟨h2.1, fun hn => ?_⟩, h3, h4⟩
    obtain ⟨ad, e, hb, hc⟩ := h2.2 hn
    exact ⟨ad, e, Nat.lt_of_lt_of_le hb hg.size, fun i u hu => (hk _ (by rw [block_of_add]; exact hb) (by rw [block_of_add]; exact h4 ad e)).trans (hc i u hu)⟩
section
variable {W : World} {g d N c : Nat} {xs : List Int}
theorem applyW_len (N : Nat) (ws : Nat → Wr) (zs : Nat → List Int) (xs : List Int) : ∀ k, (applyW N ws zs xs k).length = xs.length
  | 0 => rfl
  | k + 1 => by rw [applyW, puts_len, applyW_len]
set_option maxRecDepth 100000 in
set_option maxHeartbeats 1000000 in
theorem Apply_s (q : Nat) (D : MD) (v : Int) (A2 : Option Addr) (n2 c2 : Nat) (ws : Nat → Wr) (zs : Nat → List Int) (h : GateAt W q D) (h2 : MemAt W g d N c xs) (hr : ReplyAt W d A2 n2 ws zs) (hn2 : n2 ≤ maxLen) (hfit : fitsN n2 ws n2 = true) :
    Calls Try.prog 41 #[.pointer (some ⟨q, 0, none⟩), .pointer (some ⟨g, 0, none⟩), .agg #[.int .u32 v, .slice A2 n2 c2]] W fun e w' => e = .returned (.int .i64 0) ∧ Laid W w' g d N c (applyW N ws zs xs n2) := by
  obtain ⟨W2, hW2⟩ : ∃ W2, W2 = (W.alloc (.cells #[.int .u32 v, .slice A2 n2 c2] 43)) := ⟨_, rfl⟩
  have hb : Below W.heap.size W W2 := by rw [hW2]; exact (Below.refl _ _).alloc (Nat.le_refl _) _
  have hk1 : Blk W2 W.heap.size 43 #[.int .u32 v, .slice A2 n2 c2] := by rw [hW2]; exact Blk.new W _ _
  have hrs : W.heap.size < W2.heap.size := hk1.lt
  have hdl := h2.dl
  have hm2 := h2.below hb
  obtain ⟨m, k, c1, l1, s1, o1, _⟩ := h.below hb
  have hm := hide_ (gmade_any q m W2 c1)
  have hbt := hide_ (Bits_s hm2)
  have HW2 := hide_ hW2
  have HB := hide_ hb
  have HK := hide_ hk1
  have HR := hide_ (hr.kept (grown_of_below (row := some d) hb))
  have HM := hide_ hm2
  have HFF := hide_ hfit
  clear h h2 hr hfit hb hk1 o1 c1 hm2 hW2
  go_enter Try.func41, Try.ntmps41
  go_wp2_with fail
  rw [← HW2.out]
  clear HW2
  refine hm.out.mono ?_
  rintro e w1 ⟨rfl, hw⟩
  subst w1
  go_wp2_with fail
  refine hbt.out.mono ?_
  rintro e w1 ⟨b, b8, rfl, nq, rfl⟩
  have dB : ((b : Int) == 0) = false := by rw [beq_eq_false_iff_ne]; omega
  have hB3 := below_draws2 HB.out nq
  have hk3 := HK.out.drewN nq
  have hr3 := HR.out.kept (grown_of_below (row := some d) (below_draws2 (Below.refl _ _) nq))
  have hm3 := HM.out.below (below_draws2 (Below.refl _ _) nq)
  have hrs3 : W.heap.size < (W2.drewN nq).heap.size := hrs
  clear HB HK HR HM hbt hrs hm
  generalize W2.drewN nq = w3 at hB3 hk3 hr3 hm3 hrs3 ⊢
  have hf := gFits_any v A2 n2 c2 w3.heap.size ws w3 hr3.rd (Nat.le_refl _) hn2
  rw [HFF.out] at hf
  have HF := hide_ hf
  have r0 := hk3.cell 0
  have r1 := hk3.cell 1
  have HB := hide_ hB3
  have HK := hide_ hk3
  have HR := hide_ hr3
  have HM := hide_ hm3
  clear hf hB3 hk3 hr3 hm3
  go_wp2_with fail
  refine HF.out.mono ?_
  rintro e w4 ⟨rfl, hb4⟩
  have hB4 := HB.out.trans (hb4.mono HB.out.size)
  have hk4 := HK.out.below hb4 hrs3
  have hr4 := HR.out.kept (grown_of_below (row := some d) hb4)
  have hm4 := HM.out.below hb4
  have r0' := hk4.cell 0
  have r1' := hk4.cell 1
  have hrs4 : W.heap.size < w4.heap.size := hk4.lt
  have HS : Hid (Laid W w4 g d N c (applyW N ws zs xs 0) ∧ ReplyAt w4 d A2 n2 ws zs) := hide_ ⟨⟨hm4, grown_of_below hB4⟩, hr4⟩
  have HFIT : Hid (n2 ≤ 16 ∧ ∀ j, j < n2 → (ws j).n ≤ 256) := hide_ (by
    have h9 := HFF.out
    unfold fitsN at h9
    simp only [Bool.and_eq_true, decide_eq_true_eq, List.all_eq_true, List.mem_range] at h9
    exact h9)
  have hn16 := HFIT.out.1
  clear hb4 hB4 hk4 hr4 hm4 r0 r1 HB HK HR HM HF hrs3
  go_wp2
  go_loopw [24] (fun i wr => ∃ k : Nat, k ≤ n2 ∧ i = .int .i64 k ∧ Hid (Laid W wr g d N c (applyW N ws zs xs k) ∧ ReplyAt wr d A2 n2 ws zs)) (fun i _ => n2 - (intOf i).toNat)
  case atStart => exact ⟨0, Nat.zero_le _, rfl, HS⟩
  case round =>
    clear HS r0' r1'
    obtain ⟨k, hk, rfl, HS⟩ := hrel
    by_cases hlt : k < n2
    · obtain ⟨hL, hRp⟩ := HS.out
      obtain ⟨ad, rfl, hab, hc0, hc1⟩ := hRp.rd.at_ hlt
      have hwr := hRp.wr k hlt
      have h256 := HFIT.out.2 k hlt
      obtain ⟨wk, hwk⟩ : ∃ wk, wk = ws k := ⟨_, rfl⟩
      rw [← hwk] at hc0 hc1 hwr h256
      obtain ⟨⟨at0, at1⟩, hrd, hok, hfar⟩ := hwr
      obtain ⟨W5, hW5⟩ : ∃ W5, W5 = wr.alloc (.cells #[.int .u32 wk.at_, .slice wk.A wk.n wk.c] 104) := ⟨_, rfl⟩
      have hb5 : Below wr.heap.size wr W5 := by rw [hW5]; exact (Below.refl _ _).alloc (Nat.le_refl _) _
      have hk5 : Blk W5 wr.heap.size 104 #[.int .u32 wk.at_, .slice wk.A wk.n wk.c] := by rw [hW5]; exact Blk.new wr _ _
      have hl5 := hk5.lt
      have hw := hide_ (Write_s wk.at_ wk.A wk.n wk.c (zs k) (hL.1.below hb5) at0 (by omega) (by omega) ((hrd.below hb5).more hb5.size) hfar hok)
      have HL5 := hide_ (show W.grownBy W5 (some d) ∧ ReplyAt W5 d (some ad) n2 ws zs from ⟨grown_trans hL.2 (grown_of_below hb5), hRp.kept (grown_of_below hb5)⟩)
      have HW5 := hide_ hW5
      have HWK := hide_ hwk
      have p0 := hk5.cell 0
      have p1 := hk5.cell 1
      clear hL hRp hb5 hk5 hrd hok hfar hwk hW5 HS
      go_wp2_with fail
      rw [← HW5.out]
      clear HW5
      refine hw.out.mono ?_
      rintro e w6 ⟨rfl, hL6⟩
      have HS6 : Hid (Laid W w6 g d N c (applyW N ws zs xs (k + 1)) ∧ ReplyAt w6 d (some ad) n2 ws zs) := hide_ (by
        rw [applyW, ← HWK.out]
        exact ⟨⟨hL6.1, grown_trans HL5.out.1 hL6.2⟩, HL5.out.2.kept hL6.2⟩)
      clear hL6 HL5 hw
      go_wp2
      go_roundw
      case rel => exact ⟨k + 1, by omega, by go_num, HS6⟩
      case measure => simp [intOf]; omega
    · obtain rfl : k = n2 := by omega
      have HL := hide_ HS.out.1
      clear HS
      go_wp2
      go_ret
      exact ⟨rfl, HL.out⟩
set_option maxRecDepth 100000 in
set_option maxHeartbeats 1000000 in
theorem Apply_no (q : Nat) (D : MD) (v : Int) (A2 : Option Addr) (n2 c2 : Nat) (ws : Nat → Wr) (h : GateAt W q D) (h2 : MemAt W g d N c xs) (hr : WReads W W.heap.size A2 n2 ws) (hn2 : n2 ≤ maxLen) (hfit : fitsN n2 ws n2 = false) :
    Calls Try.prog 41 #[.pointer (some ⟨q, 0, none⟩), .pointer (some ⟨g, 0, none⟩), .agg #[.int .u32 v, .slice A2 n2 c2]] W fun e w' => e = .returned (.int .i64 5) ∧ Below W.heap.size W w' := by
  obtain ⟨W2, hW2⟩ : ∃ W2, W2 = (W.alloc (.cells #[.int .u32 v, .slice A2 n2 c2] 43)) := ⟨_, rfl⟩
  have hb : Below W.heap.size W W2 := by rw [hW2]; exact (Below.refl _ _).alloc (Nat.le_refl _) _
  have hk1 : Blk W2 W.heap.size 43 #[.int .u32 v, .slice A2 n2 c2] := by rw [hW2]; exact Blk.new W _ _
  have hrs : W.heap.size < W2.heap.size := hk1.lt
  have hm2 := h2.below hb
  obtain ⟨m, k, c1, l1, s1, o1, _⟩ := h.below hb
  have hm := hide_ (gmade_any q m W2 c1)
  have hbt := hide_ (Bits_s hm2)
  have HW2 := hide_ hW2
  have HB := hide_ hb
  have HK := hide_ hk1
  have HR := hide_ ((hr.below hb).more hb.size)
  have HFF := hide_ hfit
  clear h h2 hr hfit hb hk1 o1 c1 hm2 hW2
  go_enter Try.func41, Try.ntmps41
  go_wp2_with fail
  rw [← HW2.out]
  clear HW2
  refine hm.out.mono ?_
  rintro e w1 ⟨rfl, hw⟩
  subst w1
  go_wp2_with fail
  refine hbt.out.mono ?_
  rintro e w1 ⟨b, b8, rfl, nq, rfl⟩
  have dB : ((b : Int) == 0) = false := by rw [beq_eq_false_iff_ne]; omega
  have hB3 := below_draws2 HB.out nq
  have hk3 := HK.out.drewN nq
  have hr3 := (HR.out.below (below_draws2 (Below.refl W2.heap.size W2) nq))
  have hrs3 : W.heap.size < (W2.drewN nq).heap.size := hrs
  have hf := gFits_any v A2 n2 c2 W2.heap.size ws (W2.drewN nq) hr3 (Nat.le_refl _) hn2
  rw [HFF.out] at hf
  clear HB HK HR hbt hrs hm hr3
  generalize W2.drewN nq = w3 at hB3 hk3 hrs3 hf ⊢
  have HF := hide_ hf
  have r0 := hk3.cell 0
  have r1 := hk3.cell 1
  have HB := hide_ hB3
  clear hf hB3 hk3
  go_wp2_with fail
  refine HF.out.mono ?_
  rintro e w4 ⟨rfl, hb4⟩
  have HB4 := hide_ (HB.out.trans (hb4.mono HB.out.size))
  clear hb4
  go_wp2
  go_ret
  exact ⟨rfl, HB4.out⟩
theorem Apply_mno (q : Nat) (D : MD) (P2 : Option Addr) (v : Int) (A2 : Option Addr) (n2 c2 : Nat) (h : GateAt W q D) (h2 : NotMade W P2) :
    Calls Try.prog 41 #[.pointer (some ⟨q, 0, none⟩), .pointer P2, .agg #[.int .u32 v, .slice A2 n2 c2]] W fun e w' => e = .returned (.int .i64 1) ∧ Below W.heap.size W w' := by
  obtain ⟨W2, hW2⟩ : ∃ W2, W2 = (W.alloc (.cells #[.int .u32 v, .slice A2 n2 c2] 43)) := ⟨_, rfl⟩
  have hb : Below W.heap.size W W2 := by rw [hW2]; exact (Below.refl _ _).alloc (Nat.le_refl _) _
  obtain ⟨m, k, c1, l1, s1, o1, _⟩ := h.below hb
  have hm := hide_ (gmade_any q m W2 c1)
  have hbt := hide_ (Bits_not (h2.below hb))
  have HW2 := hide_ hW2
  have HB := hide_ hb
  clear h h2 hb o1 c1 hW2
  go_enter Try.func41, Try.ntmps41
  go_wp2_with fail
  rw [← HW2.out]
  clear HW2
  refine hm.out.mono ?_
  rintro e w1 ⟨rfl, hw⟩
  subst w1
  go_wp2_with fail
  refine hbt.out.mono ?_
  rintro e w1 ⟨rfl, hb1⟩
  have HB1 := hide_ (HB.out.trans (hb1.mono HB.out.size))
  clear hb1
  go_wp2
  go_ret
  exact ⟨rfl, HB1.out⟩
end
end Go.Proofs.Ytcfpclhoockcfaa
