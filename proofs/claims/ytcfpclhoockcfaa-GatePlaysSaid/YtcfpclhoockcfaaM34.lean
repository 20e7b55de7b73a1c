/-
  The world of GatePlays: how it is made; the script as it is handed in.
-/
import Derived.Test.YtcfpclhoockcfaaM33
namespace Go.Proofs.Ytcfpclhoockcfaa
open Go.RowKit Go.PlainAid Go.BigFrame Go.Maps
set_option linter.unusedVariables false
set_option linter.unusedSimpArgs false
set_option maxRecDepth 100000
def dPart (xs : List Int) (k : Nat) : List Int := (List.range 256).map fun j => if j < k then xs[j]?.getD 0 else 0
theorem dPart_len (xs : List Int) (k : Nat) : (dPart xs k).length = 256 := by simp [dPart]
theorem dPart_get (xs : List Int) (k j : Nat) (hj : j < 256) : (dPart xs k)[j]? = some (if j < k then xs[j]?.getD 0 else 0) := by
  unfold dPart
  rw [List.getElem?_map, List.getElem?_range hj]
  rfl
theorem dPart_none (xs : List Int) (k j : Nat) (hj : ¬ j < 256) : (dPart xs k)[j]? = none := List.getElem?_eq_none (by rw [dPart_len]; omega)
theorem dPart_set (xs : List Int) (k : Nat) (hk : k < 256) : (dPart xs k).set k (xs[k]?.getD 0) = dPart xs (k + 1) := by
  apply List.ext_getElem?
  intro j
  rw [List.getElem?_set, dPart_len]
  by_cases hj : j < 256
  · rw [dPart_get _ _ _ hj, dPart_get _ _ _ hj]
    by_cases e : k = j
    · subst e
      rw [if_pos rfl, if_pos hj, if_pos (by omega)]
    · rw [if_neg e]
      by_cases c1 : j < k
      · rw [if_pos c1, if_pos (by omega)]
      · rw [if_neg c1, if_neg (by omega)]
  · rw [dPart_none _ _ _ hj, dPart_none _ _ _ hj]
    by_cases e : k = j
    · omega
    · rw [if_neg e]
theorem dPart_ok {xs : List Int} (h : bytesOk xs) (k : Nat) : bytesOk (dPart xs k) := by
  intro x hx
  obtain ⟨j, _, rfl⟩ := List.mem_map.1 hx
  split
  · cases hq : xs[j]? with
    | none => simp
    | some y => exact h y (List.mem_of_getElem? hq)
  · omega
theorem dPart_zero (xs : List Int) : dPart xs 0 = List.replicate 256 0 := by
  apply List.ext_getElem?
  intro j
  by_cases hj : j < 256
  · rw [dPart_get _ _ _ hj, if_neg (by omega), List.getElem?_replicate, if_pos hj]
  · rw [dPart_none _ _ _ hj, List.getElem?_replicate, if_neg hj]
/-- one call of the script, where it lies -/
def AskAt (w : World) (p : Addr) (y : AskV) : Prop :=
  w.cell? p = some (.int .i64 y.on) ∧ w.cell? ⟨p.block, p.off + 1, none⟩ = some (.int .i64 y.to_) ∧ w.cell? ⟨p.block, p.off + 2, none⟩ = some (.int .i64 y.kind) ∧ w.cell? ⟨p.block, p.off + 3, none⟩ = some (.int .u32 y.a) ∧
  w.cell? ⟨p.block, p.off + 4, none⟩ = some (.int .u32 y.b) ∧ w.cell? ⟨p.block, p.off + 5, none⟩ = some (.slice y.LA y.ln y.lc) ∧ w.cell? ⟨p.block, p.off + 6, none⟩ = some (.int .u32 y.v) ∧ w.cell? ⟨p.block, p.off + 7, none⟩ = some (.slice y.WA y.wn y.wc)
theorem AskAt.below {B : Nat} {w w' : World} {p : Addr} {y : AskV} (h : AskAt w p y) (hb : Below B w w') (hp : p.block < B) : AskAt w' p y := by
  obtain ⟨h0, h1, h2, h3, h4, h5, h6, h7⟩ := h
  exact ⟨(hb.cell hp).trans h0, (hb.cell (p := ⟨p.block, p.off + 1, none⟩) hp).trans h1, (hb.cell (p := ⟨p.block, p.off + 2, none⟩) hp).trans h2, (hb.cell (p := ⟨p.block, p.off + 3, none⟩) hp).trans h3, (hb.cell (p := ⟨p.block, p.off + 4, none⟩) hp).trans h4, (hb.cell (p := ⟨p.block, p.off + 5, none⟩) hp).trans h5, (hb.cell (p := ⟨p.block, p.off + 6, none⟩) hp).trans h6, (hb.cell (p := ⟨p.block, p.off + 7, none⟩) hp).trans h7⟩
/-- the whole script -/
def Script (w : World) (B : Nat) (A : Option Addr) (n : Nat) (ys : Nat → AskV) : Prop :=
  0 < n → ∃ ad, A = some ad ∧ ad.block < B ∧ ∀ j, j < n → AskAt w (ad.add (j * 8)) (ys j)
theorem Script.below {B : Nat} {w w' : World} {A : Option Addr} {n : Nat} {ys : Nat → AskV} (h : Script w B A n ys) (hb : Below B w w') : Script w' B A n ys := fun hn => by
  obtain ⟨ad, e, hlt, hj⟩ := h hn
  exact ⟨ad, e, hlt, fun j hj2 => (hj j hj2).below hb (by rw [block_of_add]; exact hlt)⟩
theorem AskOk.more {w : World} {B B' : Nat} {y : AskV} (h : AskOk w B y) (hB : B ≤ B') : AskOk w B' y :=
  ⟨h.on, h.to, h.a, h.b, h.ls.more hB, h.lw, h.ln, h.lc, h.wr.more hB, h.wn, fun j hj => ⟨(h.wz j hj).1, (h.wz j hj).2.1, (h.wz j hj).2.2.1.more hB, (h.wz j hj).2.2.2⟩⟩
/-- the blocks of two gates and of two lists -/
def FF (w : World) (q1 q2 : Nat) (A1 A2 : Option Addr) (l1 l2 : List (Int × Int)) (j : Nat) : Prop :=
  ((j = q1 ∨ w.cell? ⟨q1, 0, none⟩ = some (.map (some j))) ∨ (j = q2 ∨ w.cell? ⟨q2, 0, none⟩ = some (.map (some j)))) ∨ ((0 < l1.length ∧ ∃ ad, A1 = some ad ∧ j = ad.block) ∨ (0 < l2.length ∧ ∃ ad, A2 = some ad ∧ j = ad.block))
def madeW (w : World) (q1 q2 g o : Nat) (A1 A2 : Option Addr) (n1 n2 c1 c2 : Nat) : World :=
  ((w.alloc (.cells #[.pointer (some ⟨q1, 0, none⟩), .pointer (some ⟨q2, 0, none⟩)] 25)).alloc (.cells #[.slice A1 n1 c1, .slice A2 n2 c2] 22)).alloc
    (.cells #[.slice (some ⟨w.heap.size, 0, none⟩) 2 2, .slice (some ⟨w.heap.size + 1, 0, none⟩) 2 2, .pointer (some ⟨g, 0, none⟩), .slice (some ⟨o, 0, none⟩) 256 256, .slice none 0 0, .slice none 0 0] 37)
theorem GateAt.lt {w : World} {q : Nat} {D : MD} (h : GateAt w q D) : q < w.heap.size ∧ ∀ m, w.cell? ⟨q, 0, none⟩ = some (.map (some m)) → m < w.heap.size := by
  obtain ⟨m1, n, h1, h2, h3, _⟩ := h
  refine ⟨h2, fun m hm => ?_⟩
  rw [h1] at hm
  injection hm with hm
  injection hm with hm
  injection hm with hm
  omega
theorem GInv.made {w w' : World} {q1 q2 g d cM o c1 c2 : Nat} {A1 A2 : Option Addr} {l1 l2 : List (Int × Int)} {D1 D2 : MD} {xs : List Int}
    (hO : Owns w' w.heap.size (memRows g d 256 cM false (.slice none 0 0) [] xs ++ [outR o 256 256 xs])) (hb : Below w.heap.size w w')
    (hl1 : LOk l1) (hD1 : Is D1 l1) (hg1 : GateAt w q1 D1) (hr1 : GReads w w.heap.size A1 l1.length l1)
    (hl2 : LOk l2) (hD2 : Is D2 l2) (hg2 : GateAt w q2 D2) (hr2 : GReads w w.heap.size A2 l2.length l2) (hx : xs.length = 256) (hok : bytesOk xs) :
    GInv (FF w q1 q2 A1 A2 l1 l2) (madeW w' q1 q2 g o A1 A2 l1.length l2.length c1 c2) w.heap.size (w'.heap.size + 2) 0
      ⟨[⟨q1, A1, c1, l1⟩, ⟨q2, A2, c2, l2⟩], g, d, cM, .slice none 0 0, xs, some ⟨o, 0, none⟩, 256, .slice (some ⟨w'.heap.size, 0, none⟩) 2 2, .slice (some ⟨w'.heap.size + 1, 0, none⟩) 2 2, .slice none 0 0, .slice none 0 0, [], []⟩ [] ∧
    Below w.heap.size w (madeW w' q1 q2 g o A1 A2 l1.length l2.length c1 c2) := by
  have hF : ∀ j, FF w q1 q2 A1 A2 l1 l2 j → j < w.heap.size := by
    rintro j ((( rfl | h) | (rfl | h)) | (⟨h0, ad, e, rfl⟩ | ⟨h0, ad, e, rfl⟩))
    · exact hg1.lt.1
    · exact hg1.lt.2 j h
    · exact hg2.lt.1
    · exact hg2.lt.2 j h
    · obtain ⟨ad', e', hlt, _⟩ := hr1.2 h0
      rw [e] at e'
      injection e' with e'
      subst e'
      exact hlt
    · obtain ⟨ad', e', hlt, _⟩ := hr2.2 h0
      rw [e] at e'
      injection e' with e'
      subst e'
      exact hlt
  have h0 : OwnsF (FF w q1 q2 A1 A2 l1 l2) w' w' w.heap.size (memRows g d 256 cM false (.slice none 0 0) [] xs ++ [outR o 256 256 xs]) :=
    OwnsF.start hO (fun j hj => ⟨Nat.lt_of_lt_of_le (hF j hj) hb.size, fun r hr he => by have := (hO.lt_ hr he).1; have := hF j hj; omega⟩)
  have h1 := h0.box 25 #[.pointer (some ⟨q1, 0, none⟩), .pointer (some ⟨q2, 0, none⟩)] hb.size (by show 2 ≤ maxLen; unfold maxLen; decide)
  have b1 : Below w.heap.size w' (w'.alloc (.cells #[.pointer (some ⟨q1, 0, none⟩), .pointer (some ⟨q2, 0, none⟩)] 25)) := (Below.refl _ _).alloc hb.size _
  have h2 := h1.box 22 #[.slice A1 l1.length c1, .slice A2 l2.length c2] (hb.trans b1).size (by show 2 ≤ maxLen; unfold maxLen; decide)
  have b2 := b1.alloc (hb.trans b1).size (.cells #[.slice A1 l1.length c1, .slice A2 l2.length c2] 22)
  have h3 := h2.box 37 #[.slice (some ⟨w'.heap.size, 0, none⟩) 2 2, .slice (some ⟨w'.heap.size + 1, 0, none⟩) 2 2, .pointer (some ⟨g, 0, none⟩), .slice (some ⟨o, 0, none⟩) 256 256, .slice none 0 0, .slice none 0 0] (hb.trans b2).size (by show 6 ≤ maxLen; unfold maxLen; decide)
  have b3 := b2.alloc (hb.trans b2).size (.cells #[.slice (some ⟨w'.heap.size, 0, none⟩) 2 2, .slice (some ⟨w'.heap.size + 1, 0, none⟩) 2 2, .pointer (some ⟨g, 0, none⟩), .slice (some ⟨o, 0, none⟩) 256 256, .slice none 0 0, .slice none 0 0] 37)
  have h4 := (h3.nilrow 22 1).nilrow 40 1
  simp only [World.size_alloc, Nat.add_assoc, Nat.reduceAdd] at h4
  have hz : Below w.heap.size w (madeW w' q1 q2 g o A1 A2 l1.length l2.length c1 c2) := hb.trans b3
  have h5 := h4.perm (m := rowsG (w'.heap.size + 2) ⟨[⟨q1, A1, c1, l1⟩, ⟨q2, A2, c2, l2⟩], g, d, cM, .slice none 0 0, xs, some ⟨o, 0, none⟩, 256, .slice (some ⟨w'.heap.size, 0, none⟩) 2 2, .slice (some ⟨w'.heap.size + 1, 0, none⟩) 2 2, .slice none 0 0, .slice none 0 0, [], []⟩ []) (fun cnt one k1 k2 k3 => by
    unfold rowsG headG outR
    simp only [k1, k2, k3, List.map_cons, List.map_nil, List.length_cons, List.length_nil]
    simp only [Nat.add_assoc, Nat.reduceAdd, List.size_toArray, List.length_cons, List.length_nil, Nat.zero_add]
    omega)
  refine ⟨⟨h5.rebase, hz.size, ?_, Nat.succ_pos _, Nat.le_refl _, Nat.le_refl _, Nat.le_refl _, hx, hok, (fun t ht => by cases ht), (fun t ht => by cases ht)⟩, hz⟩
  have hk : ∀ j, FF w q1 q2 A1 A2 l1 l2 j → (madeW w' q1 q2 g o A1 A2 l1.length l2.length c1 c2).heap[j]? = w.heap[j]? := fun j hj => hz.block j (hF j hj)
  intro x hx'
  have hx2 : x = ⟨q1, A1, c1, l1⟩ ∨ x = ⟨q2, A2, c2, l2⟩ := by simpa using hx'
  rcases hx2 with rfl | rfl
  · exact GateOk.keep (W := w) ⟨⟨D1, hD1, hg1⟩, hl1, .inl (.inl (.inl rfl)), fun m hm => .inl (.inl (.inr hm)), hr1, fun hp ad e => .inr (.inl ⟨hp, ad, e, rfl⟩)⟩ hk hz.size
  · exact GateOk.keep (W := w) ⟨⟨D2, hD2, hg2⟩, hl2, .inl (.inr (.inl rfl)), fun m hm => .inl (.inr (.inr hm)), hr2, fun hp ad e => .inr (.inr ⟨hp, ad, e, rfl⟩)⟩ hk hz.size
end Go.Proofs.Ytcfpclhoockcfaa
/-
  The world of GatePlays: what was told, as the Apart walks take it.
-/
namespace Go.Proofs.Ytcfpclhoockcfaa
open Go.RowKit Go.PlainAid Go.BigFrame
set_option linter.unusedVariables false
set_option linter.unusedSimpArgs false
theorem map_rowsF {α : Type} (l : List α) (f : α → Ro) (r : Nat → Ro) (h : ∀ j t, l[j]? = some t → r j = f t) : l.map f = rowsF l.length r := by
  apply List.ext_getElem?
  intro j
  unfold rowsF
  rw [List.getElem?_map, List.getElem?_map]
  cases hj : l[j]? with
  | none =>
    have : ¬ j < l.length := fun h2 => by rw [List.getElem?_eq_getElem h2] at hj; cases hj
    rw [List.getElem?_eq_none (by simpa using Nat.le_of_not_lt this)]
    rfl
  | some t =>
    have h2 := (List.getElem?_eq_some_iff.1 hj).1
    rw [List.getElem?_range h2]
    show some (f t) = some (r j)
    rw [h j t hj]
theorem map_range {α : Type} (l : List α) (f : α → Value) (r : Nat → Value) (h : ∀ j t, l[j]? = some t → r j = f t) : l.map f = (List.range l.length).map r := by
  apply List.ext_getElem?
  intro j
  rw [List.getElem?_map, List.getElem?_map]
  cases hj : l[j]? with
  | none =>
    have : ¬ j < l.length := fun h2 => by rw [List.getElem?_eq_getElem h2] at hj; cases hj
    rw [List.getElem?_eq_none (by simpa using Nat.le_of_not_lt this)]
    rfl
  | some t =>
    have h2 := (List.getElem?_eq_some_iff.1 hj).1
    rw [List.getElem?_range h2]
    show some (f t) = some (r j)
    rw [h j t hj]
def vsT (l : List TV) (j : Nat) : Value := match l[j]? with
  | some t => .slice t.A t.l.length t.c
  | none => .slice none 0 0
def fsT (l : List TV) (j : Nat) : List (Int × Int) := match l[j]? with
  | some t => t.l
  | none => []
def vsW (l : List KV) (j : Nat) : Value := match l[j]? with
  | some t => .slice t.A t.xs.length t.c
  | none => .slice none 0 0
def fsW (l : List KV) (j : Nat) : List Int := match l[j]? with
  | some t => t.xs
  | none => []
theorem vsT_get {l : List TV} {j : Nat} {t : TV} (h : l[j]? = some t) : vsT l j = .slice t.A t.l.length t.c := by unfold vsT; rw [h]
theorem fsT_get {l : List TV} {j : Nat} {t : TV} (h : l[j]? = some t) : fsT l j = t.l := by unfold fsT; rw [h]
theorem vsW_get {l : List KV} {j : Nat} {t : KV} (h : l[j]? = some t) : vsW l j = .slice t.A t.xs.length t.c := by unfold vsW; rw [h]
theorem fsW_get {l : List KV} {j : Nat} {t : KV} (h : l[j]? = some t) : fsW l j = t.xs := by unfold fsW; rw [h]
theorem gCells_flat (l : List (Int × Int)) : gCells l = l.flatMap gE := by
  induction l with
  | nil => rfl
  | cons a r ih => rw [List.flatMap_cons, ← ih]; rfl
theorem u32s_flat (l : List Int) : u32s l = l.flatMap wE := by
  induction l with
  | nil => rfl
  | cons a r ih => rw [List.flatMap_cons, ← ih]; rfl
def headE (q0 : Nat) (st : GW) : List Ro :=
  [⟨37, 1, .slice (some ⟨q0, 0, none⟩) 6 6, 6, [st.gv, st.rv, .pointer (some ⟨st.g, 0, none⟩), .slice st.AD 256 st.cD, st.tv, st.wv]⟩,
   ⟨25, 1, st.gv, st.gs.length, st.gs.map fun x => .pointer (some ⟨x.q, 0, none⟩)⟩,
   ⟨22, 1, st.rv, st.gs.length, st.gs.map fun x => .slice x.A x.l.length x.c⟩]
section
variable {F : Nat → Prop} {W W' : World} {B q0 k : Nat} {st : GW}
theorem GInv.apart (h : GInv F W B q0 k st []) : ∃ At ct Aw cw, st.tv = .slice At st.told.length ct ∧ st.wv = .slice Aw st.words.length cw ∧
    OwnsF F W W B (rowsF st.told.length (rowB gE 2 68 (vsT st.told) (fun j => (fsT st.told j).length) (fsT st.told)) ++ lsRow 22 At st.told.length ct (vsT st.told) ::
      (rowsF st.words.length (rowB wE 1 39 (vsW st.words) (fun j => (fsW st.words j).length) (fsW st.words)) ++ lsRow 40 Aw st.words.length cw (vsW st.words) :: headE q0 st)) := by
  obtain ⟨At, ct, e1, _, _⟩ := ownsRow_slice (h.own.at_ (i := 3) rfl)
  obtain ⟨Aw, cw, e2, _, _⟩ := ownsRow_slice (h.own.at_ (i := 4) rfl)
  have e1' : st.tv = .slice At st.told.length ct := e1
  have e2' : st.wv = .slice Aw st.words.length cw := e2
  refine ⟨At, ct, Aw, cw, e1', e2', ?_⟩
  have m1 : st.told.map toldR = rowsF st.told.length (rowB gE 2 68 (vsT st.told) (fun j => (fsT st.told j).length) (fsT st.told)) := map_rowsF _ _ _ fun j t hj => by
    simp only [rowB, toldR, vsT_get hj, fsT_get hj, gCells_flat]
  have m2 : st.words.map wordR = rowsF st.words.length (rowB wE 1 39 (vsW st.words) (fun j => (fsW st.words j).length) (fsW st.words)) := map_rowsF _ _ _ fun j t hj => by
    simp only [rowB, wordR, vsW_get hj, fsW_get hj, u32s_flat]
  have m3 : (⟨22, 1, st.tv, st.told.length, st.told.map fun x => Value.slice x.A x.l.length x.c⟩ : Ro) = lsRow 22 At st.told.length ct (vsT st.told) := by
    unfold lsRow
    rw [e1', map_range st.told (fun x => Value.slice x.A x.l.length x.c) (vsT st.told) (fun j t hj => vsT_get hj)]
  have m4 : (⟨40, 1, st.wv, st.words.length, st.words.map fun x => Value.slice x.A x.xs.length x.c⟩ : Ro) = lsRow 40 Aw st.words.length cw (vsW st.words) := by
    unfold lsRow
    rw [e2', map_range st.words (fun x => Value.slice x.A x.xs.length x.c) (vsW st.words) (fun j t hj => vsW_get hj)]
  refine h.own.pick (⟨5, 1, .slice st.AD 256 st.cD, 256, u8s st.xs⟩ :: memRows st.g st.d 256 st.cM false st.lv [] st.xs) fun cnt one k1 k2 k3 => ?_
  unfold rowsG headG headE
  rw [m1, m2, m3, m4]
  simp only [k1, k2, k3]
  omega
end
end Go.Proofs.Ytcfpclhoockcfaa
/-
  What the arguments of GatePlays read as: lists of grants, a script.
-/
namespace Go.Proofs.Ytcfpclhoockcfaa
open Go.RowKit
set_option linter.unusedVariables false
theorem grant_cells : Try.prog.cellsOf 68 = 2 := by kernel_rfl
theorem grant_bytes : Try.prog.bytesOf 68 = 16 := by kernel_rfl
theorem int_cells : Try.prog.cellsOf 3 = 1 := by kernel_rfl
theorem u32s_cells : Try.prog.cellsOf 40 = 1 := by kernel_rfl
theorem u32_bytes : Try.prog.bytesOf 39 = 4 := by kernel_rfl
theorem ask_cells : Try.prog.cellsOf 45 = 8 := by kernel_rfl
theorem ask_bytes : Try.prog.bytesOf 45 = 88 := by kernel_rfl
theorem eight_of_len {α : Type} {l : List α} (h : l.length = 8) : ∃ a b c d e f g i, l = [a, b, c, d, e, f, g, i] := by
  match l, h with
  | [a, b, c, d, e, f, g, i], _ => exact ⟨a, b, c, d, e, f, g, i, rfl⟩
theorem seen_grant {H : Type} {enc : TypeId × Value → H} {w : World} {held : Bool} {cs : List Value} (h : Seen enc Try.prog w held 68 cs) :
    ∃ t : Int × Int, cs = [.int .u32 t.1, .int .i64 t.2] ∧ (Lit.int .u32 t.1).wf = true ∧ (Lit.int .i64 t.2).wf = true := by
  obtain ⟨hl, hf⟩ := seen_struct Try.underlying68 h
  rw [grant_cells] at hl
  obtain ⟨x, y, rfl⟩ := two_of_len hl
  have f0 : Seen enc Try.prog w held 39 (([x, y].drop 0).take (Try.prog.cellsOf 39)) := hf 0 _ rfl
  have f1 : Seen enc Try.prog w held 3 (([x, y].drop 1).take (Try.prog.cellsOf 3)) := hf 1 _ rfl
  rw [u32_cells] at f0
  rw [int_cells] at f1
  obtain ⟨a, h0, w0⟩ := seen_int Try.underlying39 f0
  obtain ⟨b, h1, w1⟩ := seen_int Try.underlying3 f1
  injection h0 with h0
  injection h1 with h1
  subst h0 h1
  exact ⟨(a, b), rfl, w0, w1⟩
theorem seen_grants {H : Type} {enc : TypeId × Value → H} {w : World} {held : Bool} {cs : List Value} (h : Seen enc Try.prog w held 22 cs) :
    ∃ (A : Option Addr) (n c : Nat) (l : List (Int × Int)), cs = [.slice A n c] ∧ n ≤ c ∧ c * 16 ≤ 140737488351232 ∧ Reads w w.heap.size 2 A n (gCells l) ∧ ∀ t ∈ l, (Lit.int .u32 t.1).wf = true ∧ (Lit.int .i64 t.2).wf = true := by
  obtain ⟨A, n, c, rfl, h1, _, h3, h4⟩ := seen_slice Try.underlying22 (by rw [grant_cells]; decide) h
  rw [grant_bytes] at h3
  have h3' : c * 16 ≤ 140737488351232 := h3
  rcases Nat.eq_zero_or_pos n with rfl | hn
  · exact ⟨A, 0, c, [], rfl, h1, h3', ⟨rfl, fun h => absurd h (by omega)⟩, fun t ht => by cases ht⟩
  · obtain ⟨ad, rfl, hb, hi⟩ := h4 hn
    have hv : ∀ i, i < n → ∃ t : Int × Int, (w.cell? (ad.add (i * 2)) = some (.int .u32 t.1) ∧ w.cell? ((ad.add (i * 2)).add 1) = some (.int .i64 t.2)) ∧ (Lit.int .u32 t.1).wf = true ∧ (Lit.int .i64 t.2).wf = true := by
      intro i hlt
      obtain ⟨vs, _, hcell, hs⟩ := hi i hlt
      obtain ⟨t, rfl, g1, g2⟩ := seen_grant hs
      rw [grant_cells] at hcell
      have c0 := hcell 0 (by omega)
      have c1 := hcell 1 (by omega)
      have e0 : (ad.add (i * 2)).add 0 = ad.add (i * 2) := by simp [Addr.add]
      rw [e0] at c0
      exact ⟨t, ⟨c0, c1⟩, g1, g2⟩
    obtain ⟨f, hf⟩ := skolem_lt hv
    have hlen : ∀ (m : Nat) (p : Nat → Int × Int), (gCells ((List.range m).map p)).length = m * 2 := fun m p => by rw [gCells_len]; simp
    refine ⟨some ad, n, c, (List.range n).map f, rfl, h1, h3', ⟨hlen n f, fun _ => ⟨ad, rfl, hb, fun j u hu => ?_⟩⟩, fun t ht => ?_⟩
    · have hj : j < n * 2 := by
        have := (List.getElem?_eq_some_iff.1 hu).1
        rw [hlen] at this
        exact this
      obtain ⟨i, hi2⟩ : ∃ i, i = j / 2 := ⟨_, rfl⟩
      have hin : i < n := by omega
      obtain ⟨g0, g1⟩ := gCells_get ((List.range n).map f) (k := i) (t := f i) (by simp [hin])
      rcases Nat.mod_two_eq_zero_or_one j with h2 | h2
      · have ej : j = i * 2 := by omega
        rw [ej] at hu ⊢
        rw [g0] at hu
        injection hu with hu
        rw [← hu]
        exact (hf i hin).1.1
      · have ej : j = i * 2 + 1 := by omega
        rw [ej] at hu ⊢
        rw [g1] at hu
        injection hu with hu
        rw [← hu, ← add_of_add]
        exact (hf i hin).1.2
    · obtain ⟨j, hj, rfl⟩ := List.mem_map.1 ht
      exact (hf j (List.mem_range.1 hj)).2
set_option maxRecDepth 100000 in
theorem seen_ask {H : Type} {enc : TypeId × Value → H} {w : World} {held : Bool} {l : List Value} (h : Seen enc Try.prog w held 45 l) :
    ∃ y : AskV, l = (askC y).toList ∧ AskOk w w.heap.size y ∧ (Lit.int .i64 y.kind).wf = true := by
  obtain ⟨hl, hf⟩ := seen_struct Try.underlying45 h
  rw [ask_cells] at hl
  obtain ⟨y0, y1, y2, y3, y4, y5, y6, y7, rfl⟩ := eight_of_len hl
  have f0 : Seen enc Try.prog w held 3 (([y0, y1, y2, y3, y4, y5, y6, y7].drop 0).take (Try.prog.cellsOf 3)) := hf 0 _ rfl
  have f1 : Seen enc Try.prog w held 3 (([y0, y1, y2, y3, y4, y5, y6, y7].drop 1).take (Try.prog.cellsOf 3)) := hf 1 _ rfl
  have f2 : Seen enc Try.prog w held 3 (([y0, y1, y2, y3, y4, y5, y6, y7].drop 2).take (Try.prog.cellsOf 3)) := hf 2 _ rfl
  have f3 : Seen enc Try.prog w held 39 (([y0, y1, y2, y3, y4, y5, y6, y7].drop 3).take (Try.prog.cellsOf 39)) := hf 3 _ rfl
  have f4 : Seen enc Try.prog w held 39 (([y0, y1, y2, y3, y4, y5, y6, y7].drop 4).take (Try.prog.cellsOf 39)) := hf 4 _ rfl
  have f5 : Seen enc Try.prog w held 40 (([y0, y1, y2, y3, y4, y5, y6, y7].drop 5).take (Try.prog.cellsOf 40)) := hf 5 _ rfl
  have f6 : Seen enc Try.prog w held 43 (([y0, y1, y2, y3, y4, y5, y6, y7].drop 6).take (Try.prog.cellsOf 43)) := hf 6 _ rfl
  rw [int_cells] at f0 f1 f2
  rw [u32_cells] at f3 f4
  rw [u32s_cells] at f5
  rw [reply_cells] at f6
  obtain ⟨on, h0, w0⟩ := seen_int Try.underlying3 f0
  obtain ⟨to_, h1, w1⟩ := seen_int Try.underlying3 f1
  obtain ⟨kd, h2, w2⟩ := seen_int Try.underlying3 f2
  obtain ⟨a, h3, w3⟩ := seen_int Try.underlying39 f3
  obtain ⟨b, h4, w4⟩ := seen_int Try.underlying39 f4
  obtain ⟨LA, ln, lc, os, h5, hnc, _, hcb, hr, hz⟩ := seen_ints Try.underlying40 Try.underlying39 u32_cells f5
  obtain ⟨_, hg⟩ := seen_struct Try.underlying43 f6
  have g0 : Seen enc Try.prog w held 39 (([y6, y7].drop 0).take (Try.prog.cellsOf 39)) := hg 0 _ rfl
  have g1 : Seen enc Try.prog w held 41 (([y6, y7].drop 1).take (Try.prog.cellsOf 41)) := hg 1 _ rfl
  rw [u32_cells] at g0
  rw [writes_cells] at g1
  obtain ⟨v, h6, w6⟩ := seen_int Try.underlying39 g0
  obtain ⟨WA, wn, wc, ws, zs, h7, k1, k2, k3, k4⟩ := seen_writes g1
  injection h0 with h0
  injection h1 with h1
  injection h2 with h2
  injection h3 with h3
  injection h4 with h4
  injection h5 with h5
  injection h6 with h6
  injection h7 with h7
  subst h0 h1 h2 h3 h4 h5 h6 h7
  rw [u32_bytes] at hcb
  have hcb' : lc * 4 ≤ 140737488351232 := hcb
  exact ⟨⟨on, to_, kd, a, b, LA, ln, lc, os, v, WA, wn, wc, ws, zs⟩, rfl,
    ⟨w0, w1, wf_u32 w3, wf_u32 w4, hr, hz, by show ln * 4 ≤ 140737488351232; omega, hnc, k3, by show wn * 32 ≤ 140737488351232; omega,
     fun j hj => ⟨wf_u32 (k4 j hj).1, fun x hx => wf_u8 ((k4 j hj).2.2.2.2 x hx), (k4 j hj).2.1, Nat.le_trans (k4 j hj).2.2.1 (k4 j hj).2.2.2.1, (k4 j hj).2.2.1⟩⟩, w2⟩
theorem seen_script {H : Type} {enc : TypeId × Value → H} {w : World} {held : Bool} {cs : List Value} (h : Seen enc Try.prog w held 24 cs) :
    ∃ (A : Option Addr) (n c : Nat) (ys : Nat → AskV), cs = [.slice A n c] ∧ n ≤ c ∧ c * 88 ≤ 140737488351232 ∧ Script w w.heap.size A n ys ∧ ∀ j, j < n → AskOk w w.heap.size (ys j) ∧ (Lit.int .i64 (ys j).kind).wf = true := by
  obtain ⟨A, n, c, rfl, h1, _, h3, h4⟩ := seen_slice Try.underlying24 (by rw [ask_cells]; decide) h
  rw [ask_bytes] at h3
  have h3' : c * 88 ≤ 140737488351232 := h3
  haveI : Inhabited AskV := ⟨⟨0, 0, 0, 0, 0, none, 0, 0, [], 0, none, 0, 0, fun _ => ⟨0, none, 0, 0⟩, fun _ => []⟩⟩
  rcases Nat.eq_zero_or_pos n with rfl | hn
  · exact ⟨A, 0, c, fun _ => default, rfl, h1, h3', fun h => absurd h (by omega), fun j hj => absurd hj (by omega)⟩
  · obtain ⟨ad, rfl, hb, hi⟩ := h4 hn
    have hv : ∀ i, i < n → ∃ y : AskV, AskAt w (ad.add (i * 8)) y ∧ AskOk w w.heap.size y ∧ (Lit.int .i64 y.kind).wf = true := by
      intro i hlt
      obtain ⟨vs, _, hcell, hs⟩ := hi i hlt
      obtain ⟨y, rfl, g1, g2⟩ := seen_ask hs
      rw [ask_cells] at hcell
      have e0 : (ad.add (i * 8)).add 0 = ad.add (i * 8) := by simp [Addr.add]
      have eN : ∀ j, 0 < j → (ad.add (i * 8)).add j = ⟨(ad.add (i * 8)).block, (ad.add (i * 8)).off + j, none⟩ := fun j hj => by unfold Addr.add; simp; omega
      refine ⟨y, ⟨?_, ?_, ?_, ?_, ?_, ?_, ?_, ?_⟩, g1, g2⟩
      · rw [← e0]; exact hcell 0 (by omega)
      · rw [← eN 1 (by omega)]; exact hcell 1 (by omega)
      · rw [← eN 2 (by omega)]; exact hcell 2 (by omega)
      · rw [← eN 3 (by omega)]; exact hcell 3 (by omega)
      · rw [← eN 4 (by omega)]; exact hcell 4 (by omega)
      · rw [← eN 5 (by omega)]; exact hcell 5 (by omega)
      · rw [← eN 6 (by omega)]; exact hcell 6 (by omega)
      · rw [← eN 7 (by omega)]; exact hcell 7 (by omega)
    obtain ⟨f, hf⟩ := skolem_lt hv
    exact ⟨some ad, n, c, f, rfl, h1, h3', fun _ => ⟨ad, rfl, hb, fun j hj => (hf j hj).1⟩, fun j hj => (hf j hj).2⟩
end Go.Proofs.Ytcfpclhoockcfaa
