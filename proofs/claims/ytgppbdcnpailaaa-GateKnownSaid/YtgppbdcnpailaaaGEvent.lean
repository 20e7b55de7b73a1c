/-
  The walks of gate's Event, of a gate that was made; playpenkit.SameEvent.
-/
import Derived.Test.YtgppbdcnpailaaaGCall
namespace Go.Proofs.Ytgppbdcnpailaaa
open Go.RowKit Go.Maps
set_option linter.unusedVariables false

section
variable {W : World}
/-- an event's cells -/
def evCells (a x v : Int) (A : Option Addr) (n c : Nat) : Array Value := #[.int .u32 a, .int .u32 x, .slice A n c, .int .u32 v]
theorem ev_row {w : World} {B B' b n : Nat} {e : TypeId} {v : Value} {xs : List Value} (h : w.ownsRow B e 1 v n xs) (hB : B' ≤ B) (hb : b < B) (u0 u1 u2 u3 : Value) :
    ((((w.setCell ⟨b, 0, none⟩ u0).setCell ⟨b, 1, none⟩ u1).setCell ⟨b, 2, none⟩ u2).setCell ⟨b, 3, none⟩ u3).ownsRow B' e 1 v n xs := by
  have hne : v.ownBlock ≠ some b := fun e => by have := (h.lt b e).1; omega
  have h4 := (((h.kept (grownBy_setCell w b 0 u0) (.inr hne)).kept (grownBy_setCell _ b 1 u1) (.inr hne)).kept (grownBy_setCell _ b 2 u2) (.inr hne)).kept (grownBy_setCell _ b 3 u3) (.inr hne)
  refine ⟨h4.1, ?_⟩
  rcases h4.2 with h5 | ⟨g, cap, cur, hv, hg0, rest⟩
  · exact .inl h5
  · exact .inr ⟨g, cap, cur, hv, by omega, rest⟩
set_option maxRecDepth 100000 in
set_option maxHeartbeats 1000000 in
theorem Event_ok (q : Nat) (D : MD) (a x v : Int) (A A2 : Option Addr) (n c n2 c2 : Nat) (ns : List Int) (ws : Nat → Wr) (h : GateAt W q D) (hx : (Lit.int .u32 x).wf = true) (hh : Maps.has D (kx x) = true) (hat : D.atKey (kx x) z0 = .lit (.int .i64 (n : Nat)))
    (hr : Reads W W.heap.size 1 A n (u32s ns)) (hn : n * 4 ≤ 140737488351232) (hw : WReads W W.heap.size A2 n2 ws) (hn2 : n2 ≤ maxLen) (hfit : fitsN n2 ws n2 = true) :
    Calls Try.prog 63 #[.pointer (some ⟨q, 0, none⟩), .int .u32 a, .int .u32 x, .slice A n c, .agg #[.int .u32 v, .slice A2 n2 c2]] W fun e w' => ∃ A' c', e = .returned (.tuple #[.agg (evCells a x v A' n c'), .int .i64 0]) ∧
      w'.ownsRow W.heap.size 23 1 (.slice A' n c') n (u32s ns) ∧ Below W.heap.size W w' := by
  obtain ⟨W2, hW2⟩ : ∃ W2, W2 = ((W.alloc (.cells #[.int .u32 v, .slice A2 n2 c2] 29)).alloc (.cells #[.int .u32 0, .int .u32 0, .slice none 0 0, .int .u32 0] 108)) := ⟨_, rfl⟩
  have hb : Below W.heap.size W W2 := by rw [hW2]; exact ((Below.refl _ _).alloc (Nat.le_refl _) _).alloc (by simp) _
  have hk1 : Blk W2 W.heap.size 29 #[.int .u32 v, .slice A2 n2 c2] := by rw [hW2]; exact (Blk.new W _ _).alloc _
  have hk2 : Blk W2 (W.heap.size + 1) 108 #[.int .u32 0, .int .u32 0, .slice none 0 0, .int .u32 0] := by
    rw [hW2]
    have := Blk.new (W.alloc (.cells #[.int .u32 v, .slice A2 n2 c2] 29)) 108 #[.int .u32 0, .int .u32 0, .slice none 0 0, .int .u32 0]
    rw [World.size_alloc] at this
    exact this
  have hsz : W.heap.size + 1 < W2.heap.size := hk2.lt
  have hg := Granted_any q D x W2 (h.below hb) hx
  rw [hh] at hg
  obtain ⟨m, k, c1, l1, s1, o1, _⟩ := h.below hb
  have hm := hide_ (gmade_any q m W2 c1)
  have hf := gFits_any v A2 n2 c2 W2.heap.size ws W2 ((hw.below hb).more hb.size) (Nat.le_refl _) hn2
  rw [hfit] at hf
  have HF := hide_ hf
  have HG := hide_ hg
  have HAT := hide_ hat
  have HB := hide_ hb
  have HK := hide_ (show Blk W2 W.heap.size 29 #[.int .u32 v, .slice A2 n2 c2] ∧ Blk W2 (W.heap.size + 1) 108 #[.int .u32 0, .int .u32 0, .slice none 0 0, .int .u32 0] from ⟨hk1, hk2⟩)
  have HR := hide_ hr
  have r0 := hk1.cell 0
  have r1 := hk1.cell 1
  have hrs : W.heap.size < W2.heap.size := hk1.lt
  have d0 : ((n : Int) != (n : Int)) = false := by simp
  clear h hx hh hat hr hw hfit hb hk1 hk2 hg hf o1 c1
  have HE : Hid (W2 = ((W.alloc (.cells #[.int .u32 v, .slice A2 n2 c2] 29)).alloc (.cells #[.int .u32 0, .int .u32 0, .slice none 0 0, .int .u32 0] 108))) := hide_ hW2
  clear hW2
  go_enter Try.func63, Try.ntmps63
  go_wp2_with fail
  rw [← HE.out]
  clear HE
  refine HG.out.mono ?_
  rintro e w1 ⟨c', rfl, hc', hw⟩
  subst w1
  have ec : c' = (n : Int) := by
    rw [HAT.out] at hc'
    exact (congrArg (fun d : MD => match d with | .lit (.int _ a) => a | _ => 0) hc').symm
  subst ec
  clear hc'
  go_wp2_with fail
  refine hm.out.mono ?_
  rintro e w1 ⟨rfl, hw⟩
  subst w1
  go_wp2_with fail
  refine HF.out.mono ?_
  rintro e w3 ⟨rfl, hb3⟩
  have hk1 := HK.out.1.below hb3 hrs
  have hk2 := HK.out.2.below hb3 hsz
  have HB3 := hide_ (HB.out.trans (hb3.mono HB.out.size))
  have hr3 := (HR.out.below HB3.out).more HB3.out.size
  have hcl := hide_ (fun nq : Nat => wordsClone_any A n c ns (w3.drewN nq) hr3 hn)
  have r0' := hk1.cell 0
  have q0 := hk2.cell 0
  have q1 := hk2.cell 1
  have q2 := hk2.cell 2
  have q3 := hk2.cell 3
  have HK3 := hide_ (show Blk w3 W.heap.size 29 #[.int .u32 v, .slice A2 n2 c2] ∧ Blk w3 (W.heap.size + 1) 108 #[.int .u32 0, .int .u32 0, .slice none 0 0, .int .u32 0] from ⟨hk1, hk2⟩)
  have HARM : Hid (∀ (nq : Nat) (w4 : World), Below (w3.drewN nq).heap.size (w3.drewN nq) w4 → Blk w4 (W.heap.size + 1) 108 #[.int .u32 0, .int .u32 0, .slice none 0 0, .int .u32 0] ∧ Below W.heap.size W w4 ∧ w4.cell? ⟨W.heap.size, 0, none⟩ = some (.int .u32 v) ∧ w4.cell? ⟨W.heap.size + 1, 0, none⟩ = some (.int .u32 0) ∧ w4.cell? ⟨W.heap.size + 1, 1, none⟩ = some (.int .u32 0) ∧ w4.cell? ⟨W.heap.size + 1, 2, none⟩ = some (.slice none 0 0) ∧ w4.cell? ⟨W.heap.size + 1, 3, none⟩ = some (.int .u32 0) ∧
      w4.frozen? ⟨W.heap.size + 1, 0, none⟩ = false ∧ w4.frozen? ⟨W.heap.size + 1, 1, none⟩ = false ∧ w4.frozen? ⟨W.heap.size + 1, 2, none⟩ = false ∧ w4.frozen? ⟨W.heap.size + 1, 3, none⟩ = false ∧ W.heap.size + 1 < w4.heap.size) := hide_ fun nq w4 hb4 => by
    have k1 := (HK3.out.1.drewN nq).below hb4 (HK3.out.1.drewN nq).lt
    have k2 := (HK3.out.2.drewN nq).below hb4 (HK3.out.2.drewN nq).lt
    exact ⟨k2, (below_draws2 HB3.out nq).trans (hb4.mono (below_draws2 HB3.out nq).size), k1.cell 0, k2.cell 0, k2.cell 1, k2.cell 2, k2.cell 3, k2.frozen 0, k2.frozen 1, k2.frozen 2, k2.frozen 3, k2.lt⟩
  clear hb3 hk1 hk2 hr3 r0 r1
  go_wp2
  go_region_with (go_at_call 93; refine (hcl.out _).mono ?_; rintro e w4 ⟨A', c', rfl, hown, hb4⟩; obtain ⟨k2, hB4, r4, p0, p1, p2, p3, g0, g1, g2, g3, hs4⟩ := HARM.out _ _ hb4; have K2 := hide_ k2; have HB4 := hide_ hB4; have HOWN := hide_ hown; clear k2 hB4 hown hb4)
  all_goals
    go_wp2
    exact bodyPost_ret (v := .tuple #[.agg (evCells a x v A' n c'), .int .i64 0]) (by simp [results, Try.results63, go_sem, evCells, p0, p1, p2, p3]) rfl
      ⟨A', c', rfl, ev_row HOWN.out (show W.heap.size ≤ w3.heap.size from HB3.out.size) (show W.heap.size + 1 < w3.heap.size from HK3.out.2.lt) _ _ _ _, (((HB4.out.setCell (p := ⟨W.heap.size + 1, 0, none⟩) (Nat.le_succ _) _).setCell (p := ⟨W.heap.size + 1, 1, none⟩) (Nat.le_succ _) _).setCell (p := ⟨W.heap.size + 1, 2, none⟩) (Nat.le_succ _) _).setCell (p := ⟨W.heap.size + 1, 3, none⟩) (Nat.le_succ _) _⟩
def evZero : Array Value := #[.int .u32 0, .int .u32 0, .slice none 0 0, .int .u32 0]
set_option maxRecDepth 100000 in
set_option maxHeartbeats 1000000 in
/-- what is wrong with a call: its number, its shape, its reply -/
theorem Event_no (q : Nat) (D : MD) (a x v : Int) (A A2 : Option Addr) (n c n2 c2 : Nat) (ws : Nat → Wr) (h : GateAt W q D) (hx : (Lit.int .u32 x).wf = true) (m : Int) (hat : Maps.has D (kx x) = true → D.atKey (kx x) z0 = .lit (.int .i64 m))
    (hw : WReads W W.heap.size A2 n2 ws) (hn2 : n2 ≤ maxLen) (hbad : ¬ (Maps.has D (kx x) = true ∧ (n : Int) = m ∧ fitsN n2 ws n2 = true)) :
    Calls Try.prog 63 #[.pointer (some ⟨q, 0, none⟩), .int .u32 a, .int .u32 x, .slice A n c, .agg #[.int .u32 v, .slice A2 n2 c2]] W fun e w' => e = .returned (.tuple #[.agg evZero, .int .i64 (if Maps.has D (kx x) then (if (n : Int) = m then 5 else 162) else 161)]) ∧ Below W.heap.size W w' := by
  obtain ⟨W2, hW2⟩ : ∃ W2, W2 = ((W.alloc (.cells #[.int .u32 v, .slice A2 n2 c2] 29)).alloc (.cells #[.int .u32 0, .int .u32 0, .slice none 0 0, .int .u32 0] 108)) := ⟨_, rfl⟩
  have hb : Below W.heap.size W W2 := by rw [hW2]; exact ((Below.refl _ _).alloc (Nat.le_refl _) _).alloc (by simp) _
  have hk1 : Blk W2 W.heap.size 29 #[.int .u32 v, .slice A2 n2 c2] := by rw [hW2]; exact (Blk.new W _ _).alloc _
  have hk2 : Blk W2 (W.heap.size + 1) 108 #[.int .u32 0, .int .u32 0, .slice none 0 0, .int .u32 0] := by
    rw [hW2]
    have := Blk.new (W.alloc (.cells #[.int .u32 v, .slice A2 n2 c2] 29)) 108 #[.int .u32 0, .int .u32 0, .slice none 0 0, .int .u32 0]
    rw [World.size_alloc] at this
    exact this
  have hsz : W.heap.size + 1 < W2.heap.size := hk2.lt
  have hg := Granted_any q D x W2 (h.below hb) hx
  obtain ⟨hh, hhd⟩ : ∃ hh, hh = Maps.has D (kx x) := ⟨_, rfl⟩
  rw [← hhd] at hg hat hbad ⊢
  obtain ⟨m2, k, c1, l1, s1, o1, _⟩ := h.below hb
  have hm := hide_ (gmade_any q m2 W2 c1)
  have HG := hide_ hg
  have HAT := hide_ hat
  have HB := hide_ hb
  have HK := hide_ (show Blk W2 W.heap.size 29 #[.int .u32 v, .slice A2 n2 c2] ∧ Blk W2 (W.heap.size + 1) 108 #[.int .u32 0, .int .u32 0, .slice none 0 0, .int .u32 0] from ⟨hk1, hk2⟩)
  have r0 := hk1.cell 0
  have r1 := hk1.cell 1
  have hrs : W.heap.size < W2.heap.size := hk1.lt
  have HFP : Hid (∀ b : Bool, fitsN n2 ws n2 = b → Calls Try.prog 23 #[.agg #[.int .u32 v, .slice A2 n2 c2]] W2 fun e w' => e = .returned (.bool b) ∧ Below W2.heap.size W2 w') := hide_ fun b hb' => by
    rw [← hb']
    exact gFits_any v A2 n2 c2 W2.heap.size ws W2 ((hw.below hb).more hb.size) (Nat.le_refl _) hn2
  have HBAD := hide_ hbad
  have q0 := hk2.cell 0
  have q1 := hk2.cell 1
  have q2 := hk2.cell 2
  have q3 := hk2.cell 3
  have g0 := hk2.frozen 0
  have g1 := hk2.frozen 1
  have g2 := hk2.frozen 2
  have g3 := hk2.frozen 3
  have HFIN : Hid (∀ (w4 : World) (u0 u1 u2 u3 : Value), Below W.heap.size W w4 → Below W.heap.size W ((((w4.setCell ⟨W.heap.size + 1, 0, none⟩ u0).setCell ⟨W.heap.size + 1, 1, none⟩ u1).setCell ⟨W.heap.size + 1, 2, none⟩ u2).setCell ⟨W.heap.size + 1, 3, none⟩ u3)) := hide_ fun w4 u0 u1 u2 u3 h4 =>
    (((h4.setCell (p := ⟨W.heap.size + 1, 0, none⟩) (Nat.le_succ _) _).setCell (p := ⟨W.heap.size + 1, 1, none⟩) (Nat.le_succ _) _).setCell (p := ⟨W.heap.size + 1, 2, none⟩) (Nat.le_succ _) _).setCell (p := ⟨W.heap.size + 1, 3, none⟩) (Nat.le_succ _) _
  clear h hat hw hbad hb hk1 hk2 hg o1 c1 hhd
  have HE : Hid (W2 = ((W.alloc (.cells #[.int .u32 v, .slice A2 n2 c2] 29)).alloc (.cells #[.int .u32 0, .int .u32 0, .slice none 0 0, .int .u32 0] 108))) := hide_ hW2
  clear hW2
  cases hh with
  | false =>
    go_enter Try.func63, Try.ntmps63
    go_wp2_with fail
    rw [← HE.out]
    clear HE
    refine HG.out.mono ?_
    rintro e w1 ⟨c', rfl, hc', hw⟩
    subst w1
    clear hc'
    go_wp2_with fail
    refine hm.out.mono ?_
    rintro e w1 ⟨rfl, hw⟩
    subst w1
    go_wp2
    exact bodyPost_ret (v := .tuple #[.agg evZero, .int .i64 161]) (by simp [results, Try.results63, go_sem, evZero, q0, q1, q2, q3]) rfl ⟨rfl, HFIN.out _ _ _ _ _ HB.out⟩
  | true =>
    by_cases hnm : (n : Int) = m
    · subst hnm
      have hf : fitsN n2 ws n2 = false := by
        cases hf : fitsN n2 ws n2 with
        | false => rfl
        | true => exact absurd ⟨rfl, rfl, hf⟩ HBAD.out
      have HF := hide_ (HFP.out false hf)
      have d0 : ((n : Int) != (n : Int)) = false := by simp
      clear hf HFP
      go_enter Try.func63, Try.ntmps63
      go_wp2_with fail
      rw [← HE.out]
      clear HE
      refine HG.out.mono ?_
      rintro e w1 ⟨c', rfl, hc', hw⟩
      subst w1
      have ec : c' = (n : Int) := by
        rw [HAT.out (by trivial)] at hc'
        exact (congrArg (fun d : MD => match d with | .lit (.int _ a) => a | _ => 0) hc').symm
      subst ec
      clear hc'
      go_wp2_with fail
      refine hm.out.mono ?_
      rintro e w1 ⟨rfl, hw⟩
      subst w1
      go_wp2_with fail
      refine HF.out.mono ?_
      rintro e w3 ⟨rfl, hb3⟩
      have hk2 := HK.out.2.below hb3 hsz
      have HB3 := hide_ (HB.out.trans (hb3.mono HB.out.size))
      have p0 := hk2.cell 0
      have p1 := hk2.cell 1
      have p2 := hk2.cell 2
      have p3 := hk2.cell 3
      have e0 := hk2.frozen 0
      have e1 := hk2.frozen 1
      have e2 := hk2.frozen 2
      have e3 := hk2.frozen 3
      clear hb3 hk2 r0 r1 q0 q1 q2 q3 g0 g1 g2 g3
      go_wp2
      exact bodyPost_ret (v := .tuple #[.agg evZero, .int .i64 5]) (by simp [results, Try.results63, go_sem, evZero, p0, p1, p2, p3]) rfl ⟨by simp, HFIN.out _ _ _ _ _ HB3.out⟩
    · have HNM := hide_ hnm
      have d0 : ((n : Int) != m) = true := by simpa using hnm
      clear hnm
      go_enter Try.func63, Try.ntmps63
      go_wp2_with fail
      rw [← HE.out]
      clear HE
      refine HG.out.mono ?_
      rintro e w1 ⟨c', rfl, hc', hw⟩
      subst w1
      have ec : c' = m := by
        rw [HAT.out (by trivial)] at hc'
        exact (congrArg (fun d : MD => match d with | .lit (.int _ a) => a | _ => 0) hc').symm
      subst ec
      clear hc'
      go_wp2_with fail
      refine hm.out.mono ?_
      rintro e w1 ⟨rfl, hw⟩
      subst w1
      go_wp2
      exact bodyPost_ret (v := .tuple #[.agg evZero, .int .i64 162]) (by simp [results, Try.results63, go_sem, evZero, q0, q1, q2, q3]) rfl ⟨by simp, HFIN.out _ _ _ _ _ HB.out⟩
end
end Go.Proofs.Ytgppbdcnpailaaa
