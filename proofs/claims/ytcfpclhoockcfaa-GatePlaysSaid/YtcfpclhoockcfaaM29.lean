/-
  The world of GatePlays: one call of a script as it is handed in; what a gate's Event answers.
-/
import Derived.Test.YtcfpclhoockcfaaM28
import Derived.Test.YtcfpclhoockcfaaM17
namespace Go.Proofs.Ytcfpclhoockcfaa
open Go.RowKit Go.PlainAid Go.BigFrame
set_option linter.unusedVariables false
set_option linter.unusedSimpArgs false
set_option maxRecDepth 100000
/-- one call, as it lies in memory -/
structure AskOk (W : World) (B : Nat) (y : AskV) : Prop where
  on : (Lit.int .i64 y.on).wf = true
  to : (Lit.int .i64 y.to_).wf = true
  a : 0 ≤ y.a ∧ y.a < 4294967296
  b : 0 ≤ y.b ∧ y.b < 4294967296
  ls : Reads W B 1 y.LA y.ln (u32s y.os)
  lw : ∀ x ∈ y.os, (Lit.int .u32 x).wf = true
  ln : y.ln * 4 ≤ 140737488351232
  lc : y.ln ≤ y.lc
  wr : WReads W B y.WA y.wn y.ws
  wn : y.wn * 32 ≤ 140737488351232
  wz : ∀ j, j < y.wn → (0 ≤ (y.ws j).at_ ∧ (y.ws j).at_ < 4294967296) ∧ bytesOk (y.zs j) ∧ Reads W B 1 (y.ws j).A (y.ws j).n (u8s (y.zs j)) ∧ (y.ws j).n ≤ 140737488351232 ∧ (y.ws j).n ≤ (y.ws j).c
theorem AskOk.below {W W' : World} {B : Nat} {y : AskV} (h : AskOk W B y) (hb : Below B W W') : AskOk W' B y :=
  ⟨h.on, h.to, h.a, h.b, h.ls.below hb, h.lw, h.ln, h.lc, h.wr.below hb, h.wn, fun j hj => ⟨(h.wz j hj).1, (h.wz j hj).2.1, (h.wz j hj).2.2.1.below hb, (h.wz j hj).2.2.2⟩⟩
def evCode (ok : Bool) (m n : Nat) (ft : Bool) : Int := if ok = true then (if n = m then (if ft = true then 0 else 5) else 162) else 161
section
variable {F : Nat → Prop} {W W' : World} {B q0 k : Nat} {st : GW} {ex : List Ro}
theorem GInv.event (h : GInv F W B q0 k st ex) {i : Nat} {x : GV} (hx : st.gs[i]? = some x) (a y v : Int) (A A2 : Option Addr) (n c n2 c2 : Nat) (ns : List Int) (ws : Nat → Wr) (hy : (Lit.int .u32 y).wf = true)
    (hr : Reads W W.heap.size 1 A n (u32s ns)) (hn : n * 4 ≤ 140737488351232) (hw : WReads W W.heap.size A2 n2 ws) (hn2 : n2 ≤ maxLen) :
    Calls Try.prog 35 #[.pointer (some ⟨x.q, 0, none⟩), .int .u32 a, .int .u32 y, .slice A n c, .agg #[.int .u32 v, .slice A2 n2 c2]] W fun e w' => ∃ u0 u1 u3 A' n' c', e = .returned (.tuple #[.agg (evCells u0 u1 u3 A' n' c'), .int .i64 (evCode (findN x.l y).2 (cntN x.l y) n (fitsN n2 ws n2))]) ∧ Below W.heap.size W w' ∧
      (evCode (findN x.l y).2 (cntN x.l y) n (fitsN n2 ws n2) = 0 → u0 = a ∧ u1 = y ∧ u3 = v ∧ n' = n ∧ w'.ownsRow W.heap.size 39 1 (.slice A' n' c') n' (u32s ns)) ∧
      (evCode (findN x.l y).2 (cntN x.l y) n (fitsN n2 ws n2) ≠ 0 → u0 = 0 ∧ u1 = 0 ∧ u3 = 0 ∧ n' = 0) := by
  have hg := h.gok x (List.mem_of_getElem? hx)
  obtain ⟨D, hD, hga⟩ := hg.at_
  obtain ⟨m, n1, _, _, _, hm, _⟩ := hga
  obtain ⟨d, hd, _⟩ := val_ex hm y hy
  obtain ⟨h1, h2, h3⟩ := find_facts hg.ok hD hd
  have hga2 : GateAt W x.q D := ⟨m, n1, by assumption, by assumption, by assumption, hm, by assumption⟩
  rw [h2] at hd
  have e1 : (findN x.l y).2 = Maps.has D (kx y) := by rw [h1]
  rw [e1]
  by_cases hgood : Maps.has D (kx y) = true ∧ (n : Int) = ((cntN x.l y : Nat) : Int) ∧ fitsN n2 ws n2 = true
  · obtain ⟨g1, g2, g3⟩ := hgood
    have g2' : n = cntN x.l y := by omega
    have e2 : evCode (Maps.has D (kx y)) (cntN x.l y) n (fitsN n2 ws n2) = 0 := by unfold evCode; rw [if_pos g1, if_pos g2', if_pos g3]
    rw [e2]
    rw [← g2'] at hd
    refine (Event_ok x.q D a y v A A2 n c n2 c2 ns ws hga2 hy g1 hd hr hn hw hn2 g3).mono ?_
    rintro e w' ⟨A', c', rfl, ho, hb⟩
    exact ⟨a, y, v, A', n, c', rfl, hb, fun _ => ⟨rfl, rfl, rfl, rfl, ho⟩, fun hne => absurd rfl hne⟩
  · have e2 : (if Maps.has D (kx y) then (if (n : Int) = ((cntN x.l y : Nat) : Int) then 5 else 162) else 161 : Int) = evCode (Maps.has D (kx y)) (cntN x.l y) n (fitsN n2 ws n2) := by
      unfold evCode
      by_cases g1 : Maps.has D (kx y) = true
      · rw [if_pos g1, if_pos g1]
        by_cases g2 : n = cntN x.l y
        · have g2' : (n : Int) = ((cntN x.l y : Nat) : Int) := by omega
          rw [if_pos g2, if_pos g2', if_neg (fun g3 => hgood ⟨g1, g2', g3⟩)]
        · rw [if_neg g2, if_neg (fun h => g2 (by omega))]
      · rw [if_neg g1, if_neg g1]
    have e3 : evCode (Maps.has D (kx y)) (cntN x.l y) n (fitsN n2 ws n2) ≠ 0 := by
      rw [← e2]
      split
      · split <;> omega
      · omega
    refine (Event_no x.q D a y v A A2 n c n2 c2 ws hga2 hy _ (fun _ => hd) hw hn2 hgood).mono ?_
    rintro e w' ⟨rfl, hb⟩
    rw [e2]
    exact ⟨0, 0, 0, none, 0, 0, rfl, hb, fun h0 => absurd h0 e3, fun _ => ⟨rfl, rfl, rfl, rfl⟩⟩
end
end Go.Proofs.Ytcfpclhoockcfaa
