/-
  'for i, r := range text.Runes(s)': the loop's law at this iterator, once for all loops of the statements: outside a round, and within one.
-/
import Derived.Test.YtmbofpeedjlfhaaDoorIter
import Derived.Laws.EntriesVeiled
namespace Go.Proofs.YtmbofpeedjlfhaaDoor
set_option maxRecDepth 100000
open Go.RowKit Go.PlainAid Go.Shelf

/-- the frame behind the assignment to a loop's two variables -/
def updA (a : Act) (p q P Q : Nat) (x : Nat × Int) : Act :=
  { tmps := (((a.tmps.setIfInBounds p (.int .i64 x.1)).setIfInBounds q (.int .i32 x.2)).setIfInBounds P (.int .i64 x.1)).setIfInBounds Q (.int .i32 x.2), defers := [] }
theorem kf_wider {B B' : Nat} {W W' : World} (h : KeepsFrom B W W') (hB : B ≤ B') : KeepsFrom B' W W' := ⟨h.size, fun k o hk hl ho => h.same k o (by omega) hl ho⟩
theorem kf_walks0 {W W' : World} (h : KeepsFrom 0 W W') : KeepsWalks W W' := ⟨h.size, fun k o hk ho => h.same k o (Nat.zero_le _) hk (Obj.not_cells_of_walk ho)⟩

theorem ownFrom_obj {β : Type} {B D : Nat} {o : Obj} (hD : D < B) : OwnFrom B (fun (_ : β) W => W.heap[D]? = some o) := fun _ _ _ _ hs hg hr =>
  (hg.block D (Array.getElem?_eq_some_iff.1 hs).1 (fun e => by have := (hr D e.symm).1; omega)).trans hs
theorem ownFrom_or {β : Type} {B : Nat} {I I' : β → World → Prop} (h : OwnFrom B I) (h' : OwnFrom B I') : OwnFrom B (fun s W => I s W ∨ I' s W) := fun s W W' row hs hg hr =>
  hs.elim (fun x => .inl (h s W W' row x hg hr)) (fun x => .inr (h' s W W' row x hg hr))
theorem putObj_heap_ne {W : World} {k l : Nat} {o : Obj} (h : k ≠ l) : (W.putObj l o).heap[k]? = W.heap[k]? := World.putObj_heap_other h

theorem fold2 (t : Array Value) (p q : Nat) (x : Nat × Int) : (#[p, q].zip (encT x)).foldl (fun t (p, v) => t.setIfInBounds p v) t = (t.setIfInBounds p (.int .i64 x.1)).setIfInBounds q (.int .i32 x.2) := by
  simp [encT]

theorem pre_next {α : Type} {L pre : List α} {x c : α} (h : pre <+: L) (hc : L[pre.length]? = some c) : (pre ++ [x] <+: L ↔ x = c) := by
  obtain ⟨t, rfl⟩ := h
  rw [List.getElem?_append_right (Nat.le_refl _), Nat.sub_self] at hc
  cases t with
  | nil => simp at hc
  | cons y t =>
    simp only [List.getElem?_cons_zero, Option.some.injEq] at hc
    subst hc
    rw [List.prefix_append_right_inj]
    simp
theorem func_not_nil (a : Addr) (w : World) : (binOp .eql 75 (.func (.func 66) #[] #[.pointer (some a)]) .nilFunc).run Tryd.prog w = .ok (.bool false) w := by kernel_rfl

section
variable {g : Operand} {p q P' Q' : Nat} {assign body : Code} {Q : Exit → Act → World → Prop} {a : Act} {w : World} {Bn n₀ n : Nat} {s : ByteArray}
theorem rangeT (hn : 6 ≤ n) (hg : a.eval g = .func (.func 66) #[] #[.pointer (some ⟨Bn, 0, none⟩)]) (hBn : Bn < n₀) (hn₀ : n₀ ≤ w.heap.size) (hc : w.cell? ⟨Bn, 0, none⟩ = some (.string s))
    (I : List (Nat × Int) → World → Prop) (Ix : Code → List (Nat × Int) → World → Prop) (hI : OwnFrom w.heap.size I) (hIx : ∀ c, OwnFrom w.heap.size (Ix c)) (h0 : I [] w)
    (hassign : ∀ (l : Nat) (x : Nat × Int) (W : World) (K : Act → World → Prop), K (updA a p q P' Q' x) W →
      assign.wpIn (Fence.wide.inRound l) (n - 1 - 1) Tryd.prog (Exit.then K (fun _ _ _ => False)) { tmps := (a.tmps.setIfInBounds p (.int .i64 x.1)).setIfInBounds q (.int .i32 x.2), defers := [] } W)
    (hbody : ∀ (l : Nat) (pre : List (Nat × Int)) (x : Nat × Int) (W : World), w.heap.size ≤ l → (∃ r, W.heap[l]? = some (.loop r)) → I pre W → pre.length < (cuts s).length →
      body.wpIn (Fence.wide.inRound l) (n - 1 - 1) Tryd.prog (ownPostG w.heap.size (KpT n₀) I Ix (pre ++ [x]) W) (updA a p q P' Q' x) W)
    (hdone : ∀ (D : Nat) (W : World), w.heap.size ≤ D → I (cuts s) W → W.heap[D]? = some (.deferred (some [])) → Q .normal { a with defers := { target := .collected D, args := #[] } :: a.defers } W)
    (hstop : ∀ (D : Nat) (c : Code) (pre : List (Nat × Int)) (W : World), w.heap.size ≤ D → pre <+: cuts s → Ix c pre W → W.heap[D]? = some (.deferred (some [])) → c.wpIn Fence.wide n Tryd.prog Q { a with defers := { target := .collected D, args := #[] } :: a.defers } W) :
    (Code.rangeFunc g #[p, q] assign body).wpIn Fence.wide n Tryd.prog Q a w :=
  wpIn_rangeFunc_ownH rfl (by omega) hg trivial (enters_of Tryd.func66 (by kernel_rfl) rfl) (cut_stops (n - 1) (by omega) Bn n₀ s w hBn hn₀ hc) KpT_t (KpT_b hn₀) (Below.refl _ _) (fun _ => rfl)
    I Ix hI hIx h0 (fun x a' _ => a' = updA a p q P' Q' x) (fun _ _ _ _ _ _ hs _ _ => hs)
    (fun l pre x W K hi hK => by rw [fold2]; exact hassign l x W K (hK _ _ (KeepsFrom.refl _ _) ⟨Below.refl _ _, KeepsWalks.refl _⟩ hi rfl))
    (fun l pre x a' W hl hr hi e hlen => by subst e; exact hbody l pre x W hl hr hi hlen)
    (fun D xs W hD hS hi hk => by subst hS; exact hdone D W hD hi hk) hstop

theorem rangeM (hn : 6 ≤ n) (hg : a.eval g = .func (.func 66) #[] #[.pointer (some ⟨Bn, 0, none⟩)]) (hBn : Bn < n₀) (hn₀ : n₀ ≤ w.heap.size) (hc : w.cell? ⟨Bn, 0, none⟩ = some (.string s))
    (I : List (Nat × Int) → World → Prop) (Ix : Code → List (Nat × Int) → World → Prop) (hI : OwnFrom w.heap.size I) (hIx : ∀ c, OwnFrom w.heap.size (Ix c)) (h0 : I [] w)
    (hassign : ∀ (l : Nat) (x : Nat × Int) (W : World) (K : Act → World → Prop), K (updA a p q P' Q' x) W →
      assign.wpIn (Fence.wide.inRound l) (n - 1 - 1) Tryd.prog (Exit.then K (fun _ _ _ => False)) { tmps := (a.tmps.setIfInBounds p (.int .i64 x.1)).setIfInBounds q (.int .i32 x.2), defers := [] } W)
    (hbody : ∀ (l : Nat) (pre : List (Nat × Int)) (x : Nat × Int) (W : World), x ∈ cuts s → w.heap.size ≤ l → (∃ r, W.heap[l]? = some (.loop r)) → I pre W → pre.length < (cuts s).length →
      body.wpIn (Fence.wide.inRound l) (n - 1 - 1) Tryd.prog (ownPostG w.heap.size (KpT n₀) I Ix (pre ++ [x]) W) (updA a p q P' Q' x) W)
    (hdone : ∀ (D : Nat) (W : World), w.heap.size ≤ D → I (cuts s) W → W.heap[D]? = some (.deferred (some [])) → Q .normal { a with defers := { target := .collected D, args := #[] } :: a.defers } W)
    (hstop : ∀ (D : Nat) (c : Code) (pre : List (Nat × Int)) (W : World), w.heap.size ≤ D → pre <+: cuts s → Ix c pre W → W.heap[D]? = some (.deferred (some [])) → c.wpIn Fence.wide n Tryd.prog Q { a with defers := { target := .collected D, args := #[] } :: a.defers } W) :
    (Code.rangeFunc g #[p, q] assign body).wpIn Fence.wide n Tryd.prog Q a w :=
  wpIn_rangeFunc_ownH rfl (by omega) hg trivial (enters_of Tryd.func66 (by kernel_rfl) rfl) (cut_stopsM (n - 1) (by omega) Bn n₀ s w hBn hn₀ hc) KpT_t (KpT_b hn₀) (Below.refl _ _) (fun _ => rfl)
    (fun pre => I (pre.map (·.1))) (fun c pre => Ix c (pre.map (·.1))) (fun pre => hI (pre.map (·.1))) (fun c pre => hIx c (pre.map (·.1))) h0 (fun x a' _ => a' = updA a p q P' Q' x.1) (fun _ _ _ _ _ _ hs _ _ => hs)
    (fun l pre x W K hi hK => by rw [fold2]; exact hassign l x.1 W K (hK _ _ (KeepsFrom.refl _ _) ⟨Below.refl _ _, KeepsWalks.refl _⟩ hi rfl))
    (fun l pre x a' W hl hr hi e hlen => by
      subst e
      have := hbody l (pre.map (·.1)) x.1 W x.2 hl hr hi (by simpa using hlen)
      rw [show pre.map (·.1) ++ [x.1] = (pre ++ [x]).map (·.1) by simp] at this
      exact this)
    (fun D xs W hD hS hi hk => by
      have hS' : xs.map (·.1) = cuts s := hS
      simp only [hS'] at hi
      exact hdone D W hD hi hk)
    (fun D c pre W hD hS hi hk => hstop D c (pre.map (·.1)) W hD hS hi hk)

theorem rangeTN {l₀ : Nat} {r₀ : Loop} (hl₀ : w.heap[l₀]? = some (.loop r₀)) (hn : 6 ≤ n) (hg : a.eval g = .func (.func 66) #[] #[.pointer (some ⟨Bn, 0, none⟩)]) (hBn : Bn < n₀) (hn₀ : n₀ ≤ w.heap.size) (hc : w.cell? ⟨Bn, 0, none⟩ = some (.string s))
    (I : List (Nat × Int) → World → Prop) (Ix : Code → List (Nat × Int) → World → Prop) (hI : OwnFrom w.heap.size I) (hIx : ∀ c, OwnFrom w.heap.size (Ix c)) (h0 : I [] w)
    (hassign : ∀ (l : Nat) (x : Nat × Int) (W : World) (K : Act → World → Prop), K (updA a p q P' Q' x) W →
      assign.wpIn ((Fence.wide.inRound l₀).inRound l) (n - 1 - 1) Tryd.prog (Exit.then K (fun _ _ _ => False)) { tmps := (a.tmps.setIfInBounds p (.int .i64 x.1)).setIfInBounds q (.int .i32 x.2), defers := [] } W)
    (hbody : ∀ (l : Nat) (pre : List (Nat × Int)) (x : Nat × Int) (W : World), w.heap.size ≤ l → (∃ r, W.heap[l]? = some (.loop r)) → I pre W → pre.length < (cuts s).length →
      body.wpIn ((Fence.wide.inRound l₀).inRound l) (n - 1 - 1) Tryd.prog (ownPostG w.heap.size (KpT n₀) I Ix (pre ++ [x]) W) (updA a p q P' Q' x) W)
    (hdone : ∀ (W : World), I (cuts s) W → Q .normal a W)
    (hstop : ∀ (c : Code) (pre : List (Nat × Int)) (W : World), pre <+: cuts s → Ix c pre W → c.wpIn (Fence.wide.inRound l₀) n Tryd.prog Q a W) :
    (Code.rangeFunc g #[p, q] assign body).wpIn (Fence.wide.inRound l₀) n Tryd.prog Q a w :=
  wpIn_rangeFunc_ownN (l₀ := l₀) (r₀ := r₀) rfl hl₀ (by omega) hg trivial (enters_of Tryd.func66 (by kernel_rfl) rfl) ((cut_stops (n - 1) (by omega) Bn n₀ s w hBn hn₀ hc).inRound l₀) KpT_t (KpT_b hn₀) (Below.refl _ _) (fun _ => rfl)
    I Ix hI hIx h0 (fun x a' _ => a' = updA a p q P' Q' x) (fun _ _ _ _ _ _ hs _ _ => hs)
    (fun l pre x W K hi hK => by rw [fold2]; exact hassign l x W K (hK _ _ (KeepsFrom.refl _ _) ⟨Below.refl _ _, KeepsWalks.refl _⟩ hi rfl))
    (fun l pre x a' W hl hr hi e hlen => by subst e; exact hbody l pre x W hl hr hi hlen)
    (fun xs W hS hi => by subst hS; exact hdone W hi) hstop
end
end Go.Proofs.YtmbofpeedjlfhaaDoor
