/-
  What the walk of playpenlaw09.apartTouches speaks in: lists of touches as rows.
-/
import Derived.Test.YtgppbdcnpailaaaApartG
namespace Go.Proofs.Ytgppbdcnpailaaa
open Go.RowKit Go.PlainAid
set_option linter.unusedVariables false
set_option linter.unusedSimpArgs false

def mkT (k i : Nat) : Int × Bool := ((1000003 * ((k : Int) + 1) + (i : Int)) % 4294967296, false)
def mkL (k n : Nat) : List (Int × Bool) := (List.range n).map (mkT k)
theorem mkL_len (k n : Nat) : (mkL k n).length = n := by simp [mkL]
theorem mkL_succ (k n : Nat) : mkL k (n + 1) = mkL k n ++ [mkT k n] := by simp [mkL, List.range_succ]
theorem mkL_get (k n i : Nat) (h : i < n) : (mkL k n)[i]? = some (mkT k i) := by simp [mkL, h]
theorem touchCells_app (a b : List (Int × Bool)) : touchCells (a ++ b) = touchCells a ++ touchCells b := by simp [touchCells]
theorem touchCells_set (X : List (Int × Bool)) : ∀ (j : Nat) (t : Int × Bool), ((touchCells X).set (j * 2) (.int .u32 t.1)).set (j * 2 + 1) (.bool t.2) = touchCells (X.set j t) := by
  induction X with
  | nil => intro j t; simp [touchCells]
  | cons a r ih =>
    intro j t
    have e : touchCells (a :: r) = .int .u32 a.1 :: .bool a.2 :: touchCells r := rfl
    rw [e]
    cases j with
    | zero => rfl
    | succ j =>
      rw [show (j + 1) * 2 = j * 2 + 1 + 1 by omega, show j * 2 + 1 + 1 + 1 = (j * 2 + 1) + 1 + 1 by omega]
      simp only [List.set_cons_succ, ih j t]
      rfl
def rowT (As : Nat → Option Addr) (cs ns : Nat → Nat) (fs : Nat → List (Int × Bool)) (j : Nat) : Ro := ⟨73, 2, .slice (As j) (ns j) (cs j), ns j, touchCells (fs j)⟩
def updT (f : Nat → List (Int × Bool)) (k : Nat) (x : List (Int × Bool)) : Nat → List (Int × Bool) := fun j => if j = k then x else f j
def markT (ns : Nat → Nat) (fs : Nat → List (Int × Bool)) (k : Nat) : Nat → List (Int × Bool) := fun j => if j < k then mkL j (ns j) else fs j
def lsT (AL : Option Addr) (K cL : Nat) (As : Nat → Option Addr) (ns : Nat → Nat) : Ro := ⟨70, 1, .slice AL K cL, K, (List.range K).map fun j => .slice (As j) (ns j) (ns j)⟩
theorem lsT_some {W : World} {B K cL : Nat} {AL : Option Addr} {As : Nat → Option Addr} {ns : Nat → Nat} {r : Nat → Ro} {ex : List Ro} (h : Owns W B (rowsF K r ++ lsT AL K cL As ns :: ex)) (hK : 0 < K) : ∃ G, AL = some ⟨G, 0, none⟩ := by
  have h1 := h.at_ (i := K + 0) (rowsF_ex r (lsT AL K cL As ns) ex 0)
  obtain ⟨g, c', h4⟩ := ownsRow_some h1 hK
  have h5 : Value.slice AL K cL = .slice (some ⟨g, 0, none⟩) K c' := h4
  injection h5 with h5
  exact ⟨g, h5⟩
theorem updT_self (f : Nat → List (Int × Bool)) (k : Nat) : updT f k (f k) = f := by
  funext j
  unfold updT
  by_cases h : j = k
  · subst h; simp
  · rw [if_neg h]
theorem markT_step (ns : Nat → Nat) (fs : Nat → List (Int × Bool)) (k : Nat) : markT ns fs (k + 1) = updT (markT ns fs k) k (mkL k (ns k)) := by
  funext j
  unfold markT updT
  dsimp only
  by_cases h : j = k
  · subst h; simp
  · by_cases h2 : j < k
    · rw [if_pos (by omega), if_neg h, if_pos h2]
    · rw [if_neg (by omega), if_neg h, if_neg h2]
theorem rowT_get {K k : Nat} {As : Nat → Option Addr} {cs ns : Nat → Nat} {f : Nat → List (Int × Bool)} {ex : List Ro} (hk : k < K) (X : List (Int × Bool)) :
    (rowsF K (rowT As cs ns (updT f k X)) ++ ex)[k]? = some ⟨73, 2, .slice (As k) (ns k) (cs k), ns k, touchCells X⟩ := by
  rw [rowsF_get _ _ hk]
  unfold rowT updT
  simp
theorem rowT_upd {K k : Nat} {As : Nat → Option Addr} {cs ns : Nat → Nat} {f : Nat → List (Int × Bool)} {X Y : List (Int × Bool)} :
    rowsF K (updR (rowT As cs ns (updT f k X)) k ⟨73, 2, .slice (As k) (ns k) (cs k), ns k, touchCells Y⟩) = rowsF K (rowT As cs ns (updT f k Y)) :=
  rowsF_congr fun j _ => by
    unfold updR rowT updT
    by_cases h : j = k
    · subst h; simp
    · simp [h]
theorem over_setT (q : Nat) (xs : List (Int × Bool)) (j : Nat) (h : j < xs.length) : (mkL q j ++ xs.drop j).set j (mkT q j) = mkL q (j + 1) ++ xs.drop (j + 1) := by
  rw [List.drop_eq_getElem_cons h, List.set_append_right _ _ (by rw [mkL_len]; omega), mkL_len, Nat.sub_self, List.set_cons_zero, mkL_succ]
  simp
theorem rowT_store {W : World} {B K k : Nat} {As : Nat → Option Addr} {cs ns : Nat → Nat} {f : Nat → List (Int × Bool)} {ex : List Ro} (hk : k < K) (X : List (Int × Bool)) {g j : Nat} (hv : As k = some ⟨g, 0, none⟩)
    (h : Owns W B (rowsF K (rowT As cs ns (updT f k X)) ++ ex)) (hj : j < X.length) (x : Int) (b : Bool) :
    Owns ((W.setCell ⟨g, j * 2, none⟩ (.int .u32 x)).setCell ⟨g, j * 2 + 1, none⟩ (.bool b)) B (rowsF K (rowT As cs ns (updT f k (X.set j (x, b)))) ++ ex) := by
  have hl : (touchCells X).length = X.length * 2 := touchCells_len X
  have hr : (rowsF K (rowT As cs ns (updT f k X)) ++ ex)[k]? = some ⟨73, 2, .slice (some ⟨g, 0, none⟩) (ns k) (cs k), ns k, touchCells X⟩ := by rw [rowT_get hk, hv]
  have h1 := h.store hr (j := j * 2) (by omega) (.int .u32 x)
  have hlen : k < (rowsF K (rowT As cs ns (updT f k X)) ++ ex).length := (List.getElem?_eq_some_iff.1 hr).1
  have h2 := h1.store (i := k) (by rw [List.getElem?_set_self hlen]) (j := j * 2 + 1) (by rw [List.length_set]; omega) (.bool b)
  rw [List.set_set, touchCells_set X j (x, b), rowsF_set _ _ _ hk, ← hv, rowT_upd] at h2
  exact h2
theorem Reads.all_ {w : World} {B size n : Nat} {A : Option Addr} {xs : List Value} (h : Reads w B size A n xs) : ∀ b, A = some b → ∀ j u, xs[j]? = some u → w.cell? (b.add j) = some u := by
  intro b hb j u hu
  rcases Nat.eq_zero_or_pos n with h0 | h0
  · have hx : xs = [] := List.eq_nil_of_length_eq_zero (by rw [h.1, h0]; omega)
    subst hx
    simp at hu
  · obtain ⟨ad, e, _, hc⟩ := h.2 h0
    rw [hb] at e
    injection e with e
    subst e
    exact hc j u hu
theorem own_none {w : World} {B size n c : Nat} {e : TypeId} {A : Option Addr} {xs : List Value} (h : w.ownsRow B e size (.slice A n c) n xs) : A = none → n = 0 := by
  rintro rfl
  rcases h.2 with ⟨_, h0⟩ | ⟨g, cap, _, hv, _⟩
  · exact h0
  · cases hv
theorem infoT : (Try.prog.info? 70).map (fun i => (i.zero, i.size, i.bytes)) = some (some (.slice none 0 0), 1, 24) := by kernel_rfl

/-! ### the second phase -/
def gsT (v : Value) (m : Nat) (r : Nat → Ro) : Ro := ⟨70, 1, v, m, (List.range m).map fun j => (r j).v⟩
def NewOk (ns : Nat → Nat) (m : Nat) (r : Nat → Ro) : Prop := ∀ j, j < m → r j = ⟨73, 2, (r j).v, ns j + 64, touchCells (mkL j (ns j + 64))⟩
theorem NewOk.next {ns : Nat → Nat} {m : Nat} {r : Nat → Ro} (h : NewOk ns m r) (v : Value) : NewOk ns (m + 1) (updR r m ⟨73, 2, v, ns m + 64, touchCells (mkL m (ns m + 64))⟩) := by
  intro j hj
  unfold updR
  by_cases e : j = m
  · subst e; simp
  · rw [if_neg e]
    exact h j (by omega)
theorem gsT_next (v v' : Value) (m : Nat) (r : Nat → Ro) (x : Ro) : (⟨70, 1, v', m + 1, ((List.range m).map fun j => (r j).v) ++ [x.v]⟩ : Ro) = gsT v' (m + 1) (updR r m x) := by
  unfold gsT
  rw [List.range_succ, List.map_append]
  congr 1
  congr 1
  · exact List.map_congr_left (fun j hj => by unfold updR; rw [if_neg (by have := List.mem_range.1 hj; omega)])
  · simp [updR]
theorem rowsF_next (m : Nat) (r : Nat → Ro) (x : Ro) : rowsF (m + 1) (updR r m x) = rowsF m r ++ [x] := by
  rw [rowsF_succ, show updR r m x m = x from if_pos rfl]
  congr 1
  exact rowsF_congr fun j hj => if_neg (by omega)
theorem fx_cell {W : World} {B K cL G k : Nat} {As : Nat → Option Addr} {cs ns : Nat → Nat} {f : Nat → List (Int × Bool)} {ex0 l : List Ro} (h : Owns W B (l ++ (rowsF K (rowT As cs ns f) ++ lsT (some ⟨G, 0, none⟩) K cL As ns :: ex0))) (hk : k < K) :
    W.cell? ⟨G, k, none⟩ = some (.slice (As k) (ns k) (ns k)) :=
  (h.sub (List.sublist_append_right _ _)).cell (i := K + 0) (rowsF_ex (rowT As cs ns f) (lsT (some ⟨G, 0, none⟩) K cL As ns) ex0 0) (j := k) (u := .slice (As k) (ns k) (ns k)) (by simp [hk])
theorem fx_row {W : World} {B K cL k : Nat} {AL : Option Addr} {As : Nat → Option Addr} {cs ns : Nat → Nat} {f : Nat → List (Int × Bool)} {ex0 l : List Ro} (h : Owns W B (l ++ (rowsF K (rowT As cs ns f) ++ lsT AL K cL As ns :: ex0))) (hk : k < K) :
    W.ownsRow B 73 2 (.slice (As k) (ns k) (cs k)) (ns k) (touchCells (f k)) :=
  (h.sub (List.sublist_append_right _ _)).at_ (rowsF_get (rowT As cs ns f) (lsT AL K cL As ns :: ex0) hk)
/-- what lies in the row number q behind its growing, and in its list -/
theorem last_T {W : World} {B m q G cL : Nat} {As : Nat → Option Addr} {cs ns : Nat → Nat} {r : Nat → Ro} {ex0 : List Ro} {gv : Value}
    (hO : Owns W B (gsT gv m r :: (rowsF m r ++ (rowsF m (rowT As cs ns fun j => mkL j (ns j)) ++ lsT (some ⟨G, 0, none⟩) m cL As ns :: ex0)))) (hN : NewOk ns m r) (hq : q < m) :
    ∃ g' cg g5 c5, gv = .slice (some ⟨g', 0, none⟩) m cg ∧ W.cell? ⟨g', q, none⟩ = some (.slice (some ⟨g5, 0, none⟩) (ns q + 64) c5) ∧ W.cell? ⟨G, q, none⟩ = some (.slice (As q) (ns q) (ns q)) ∧ g' < W.heap.size ∧ G < W.heap.size ∧ g5 < W.heap.size ∧
      (∀ i, i < ns q + 64 → W.cell? ⟨g5, i * 2, none⟩ = some (.int .u32 (mkT q i).1) ∧ W.cell? ⟨g5, i * 2 + 1, none⟩ = some (.bool false)) ∧
      (∀ i, i < ns q → ∃ g, As q = some ⟨g, 0, none⟩ ∧ g < W.heap.size ∧ W.cell? ⟨g, i * 2, none⟩ = some (.int .u32 (mkT q i).1) ∧ W.cell? ⟨g, i * 2 + 1, none⟩ = some (.bool false)) := by
  obtain ⟨g', cg, hgv⟩ := ownsRow_some (hO.at_ (i := 0) rfl) (show 0 < m by omega)
  have hgv' : gv = .slice (some ⟨g', 0, none⟩) m cg := hgv
  subst hgv'
  have hO1 := hO.sub (List.sublist_cons_self _ _)
  have hrow := rowsF_get r (rowsF m (rowT As cs ns fun j => mkL j (ns j)) ++ lsT (some ⟨G, 0, none⟩) m cL As ns :: ex0) hq
  have hd := hN q hq
  rw [hd] at hrow
  obtain ⟨g5, c5, h5⟩ := ownsRow_some (hO1.at_ hrow) (show 0 < ns q + 64 by omega)
  have h6 : (r q).v = .slice (some ⟨g5, 0, none⟩) (ns q + 64) c5 := h5
  rw [h6] at hrow
  have hO2 := hO1.sub (List.sublist_append_right (rowsF m r) _)
  refine ⟨g', cg, g5, c5, rfl, ?_, fx_cell hO1 hq, (hO.base (i := 0) rfl).2, (hO2.base (i := m + 0) (rowsF_ex (rowT As cs ns fun j => mkL j (ns j)) (lsT (some ⟨G, 0, none⟩) m cL As ns) ex0 0)).2, (hO1.base hrow).2, fun i hi => ?_, fun i hi => ?_⟩
  · have := hO.cell (i := 0) rfl (j := q) (u := (r q).v) (by simp [hq])
    rw [this, h6]
  · obtain ⟨t1, t2⟩ := touch_get _ (mkL_get q (ns q + 64) i hi)
    exact ⟨hO1.cell hrow t1, hO1.cell hrow t2⟩
  · have hr2 := fx_row hO1 hq
    obtain ⟨g, c, h7⟩ := ownsRow_some hr2 (show 0 < ns q by omega)
    have h8 : As q = some ⟨g, 0, none⟩ := by injection h7
    obtain ⟨t1, t2⟩ := touch_get _ (mkL_get q (ns q) i hi)
    have hr3 := rowsF_get (rowT As cs ns fun j => mkL j (ns j)) (lsT (some ⟨G, 0, none⟩) m cL As ns :: ex0) hq
    unfold rowT at hr3
    rw [h8] at hr3
    exact ⟨g, h8, (hO2.base hr3).2, hO2.cell hr3 t1, hO2.cell hr3 t2⟩
end Go.Proofs.Ytgppbdcnpailaaa
