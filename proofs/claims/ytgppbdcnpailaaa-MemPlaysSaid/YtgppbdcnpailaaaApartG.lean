/-
  The walk of playpenkit.ApartBytes, other rows beside the lists.
-/
import Derived.PlainAid
import Derived.Test.YtgppbdcnpailaaaPairs
namespace Go.Proofs.Ytgppbdcnpailaaa
open Go.RowKit Go.PlainAid
set_option linter.unusedVariables false
set_option linter.unusedSimpArgs false

/-- a row of bytes -/
def rowB (vs : Nat → Value) (ns : Nat → Nat) (fs : Nat → List Int) (j : Nat) : Ro := ⟨5, 1, vs j, ns j, u8s (fs j)⟩
def updF (f : Nat → List Int) (k : Nat) (x : List Int) : Nat → List Int := fun j => if j = k then x else f j
/-- the lists, the first k of them marked -/
noncomputable def markF (ns : Nat → Nat) (fs : Nat → List Int) (k : Nat) : Nat → List Int := fun j => if j < k then marks8 ((j : Int) + 1) 0 (ns j) else fs j
def lsRow (AL : Option Addr) (K cL : Nat) (vs : Nat → Value) : Ro := ⟨46, 1, .slice AL K cL, K, (List.range K).map vs⟩
theorem ls_some {W : World} {B K cL : Nat} {AL : Option Addr} {vs : Nat → Value} {r : Nat → Ro} {ex : List Ro} (h : Owns W B (rowsF K r ++ lsRow AL K cL vs :: ex)) (hK : 0 < K) : ∃ G, AL = some ⟨G, 0, none⟩ := by
  have h1 := h.at_ (i := K + 0) (rowsF_ex r (lsRow AL K cL vs) ex 0)
  obtain ⟨g, c', h4⟩ := ownsRow_some h1 hK
  have h5 : Value.slice AL K cL = .slice (some ⟨g, 0, none⟩) K c' := h4
  injection h5 with h5
  exact ⟨g, h5⟩
theorem row_upd {K k : Nat} {vs : Nat → Value} {ns : Nat → Nat} {fs : Nat → List Int} {x : List Int} (_hk : k < K) : rowsF K (updR (rowB vs ns fs) k ⟨5, 1, vs k, ns k, u8s x⟩) = rowsF K (rowB vs ns (updF fs k x)) :=
  rowsF_congr fun j _ => by
    unfold updR rowB updF
    by_cases h : j = k
    · subst h; simp
    · simp [h]
theorem mark_step (ns : Nat → Nat) (fs : Nat → List Int) (k : Nat) : markF ns fs (k + 1) = updF (markF ns fs k) k (marks8 ((k : Int) + 1) 0 (ns k)) := by
  funext j
  unfold markF updF
  dsimp only
  by_cases h : j = k
  · subst h; simp
  · by_cases h2 : j < k
    · rw [if_pos (by omega), if_neg h, if_pos h2]
    · rw [if_neg (by omega), if_neg h, if_neg h2]
theorem upd_self (f : Nat → List Int) (k : Nat) : updF f k (f k) = f := by
  funext j
  unfold updF
  by_cases h : j = k
  · subst h; simp
  · rw [if_neg h]
theorem upd_upd (f : Nat → List Int) (k : Nat) (x y : List Int) : updF (updF f k x) k y = updF f k y := by
  funext j
  unfold updF
  by_cases h : j = k <;> simp [h]
theorem over_set3 (q : Int) (xs : List Int) (j : Nat) (h : j < xs.length) : (marks8 q 0 j ++ xs.drop j).set j (mk8 q j) = marks8 q 0 (j + 1) ++ xs.drop (j + 1) := by
  rw [List.drop_eq_getElem_cons h, List.set_append_right _ _ (by rw [marks8_len]; omega), marks8_len, Nat.sub_self, List.set_cons_zero, marks8_succ0]
  simp
theorem apart_row {K k : Nat} {vs : Nat → Value} {ns : Nat → Nat} {f : Nat → List Int} {ex : List Ro} (hk : k < K) (X : List Int) {g n c1 : Nat} (hv : vs k = .slice (some ⟨g, 0, none⟩) n c1) (hn : n = ns k) :
    (rowsF K (rowB vs ns (updF f k X)) ++ ex)[k]? = some ⟨5, 1, .slice (some ⟨g, 0, none⟩) n c1, n, u8s X⟩ := by
  rw [rowsF_get _ _ hk]
  unfold rowB
  rw [hv, ← hn]
  simp [updF]
theorem apart_store {W : World} {B K k : Nat} {vs : Nat → Value} {ns : Nat → Nat} {f : Nat → List Int} {ex : List Ro} (hk : k < K) (X : List Int) {g n c1 j : Nat} (hv : vs k = .slice (some ⟨g, 0, none⟩) n c1) (hn : n = ns k)
    (h : Owns W B (rowsF K (rowB vs ns (updF f k X)) ++ ex)) (hj : j < X.length) (m : Int) : Owns (W.setCell ⟨g, j, none⟩ (.int .u8 m)) B (rowsF K (rowB vs ns (updF f k (X.set j m))) ++ ex) := by
  have := h.store (apart_row hk X hv hn) (j := j) (by simpa using hj) (.int .u8 m)
  rw [rowsF_set _ _ _ hk, show (u8s X).set j (.int .u8 m) = u8s (X.set j m) from (List.map_set).symm] at this
  have e : rowsF K (updR (rowB vs ns (updF f k X)) k ⟨5, 1, .slice (some ⟨g, 0, none⟩) n c1, n, u8s (X.set j m)⟩) = rowsF K (rowB vs ns (updF f k (X.set j m))) := by
    rw [← upd_upd f k X (X.set j m), ← row_upd hk, hv, hn]
  rw [e] at this
  exact this
/-! ### the second phase -/
noncomputable def mkU (j n : Nat) : List Value := u8s (marks8 ((j : Int) + 1) 0 n)
theorem mkU_succ (j n : Nat) : mkU j (n + 1) = mkU j n ++ [.int .u8 (mk8 ((j : Int) + 1) n)] := by unfold mkU; rw [marks8_succ0, u8s_app]; rfl
theorem mkU_get (j n i : Nat) (h : i < n) : (mkU j n)[i]? = some (.int .u8 (mk8 ((j : Int) + 1) i)) := by
  unfold mkU u8s
  rw [List.getElem?_map]
  simp [marks8, h]
/-- some row holds what stood there -/
def OldOk (rs : List Ro) (v : Value) (ys : List Value) : Prop := ∃ r ∈ rs, r.e = 5 ∧ r.size = 1 ∧ r.v.ownBlock = v.ownBlock ∧ ys <+: r.xs
theorem OldOk.set {rs : List Ro} {v : Value} {ys : List Value} (h : OldOk rs v ys) {k : Nat} {old : Ro} (hk : rs[k]? = some old) (new : Ro)
    (hne : old.e ≠ 5 ∨ (new.e = 5 ∧ new.size = 1 ∧ new.v.ownBlock = old.v.ownBlock ∧ old.xs <+: new.xs)) : OldOk (rs.set k new) v ys := by
  obtain ⟨r, hr, h1, h2, h3, h4⟩ := h
  obtain ⟨i, hi⟩ := List.mem_iff_getElem?.1 hr
  have hkl : k < rs.length := (List.getElem?_eq_some_iff.1 hk).1
  by_cases hik : k = i
  · subst hik
    rw [hk] at hi
    injection hi with hi
    subst hi
    rcases hne with hne | ⟨g1, g2, g3, g4⟩
    · exact absurd h1 hne
    · exact ⟨new, List.mem_iff_getElem?.2 ⟨k, by rw [List.getElem?_set_self hkl]⟩, g1, g2, g3.trans h3, h4.trans g4⟩
  · exact ⟨r, List.mem_iff_getElem?.2 ⟨i, by rw [List.getElem?_set_ne hik]; exact hi⟩, h1, h2, h3, h4⟩
theorem OldOk.moved {rs : List Ro} {v : Value} {ys : List Value} (h : OldOk rs v ys) {k : Nat} {old : Ro} (hk : rs[k]? = some old) (new : Ro) : OldOk (rs.set k new ++ [old]) v ys := by
  obtain ⟨r, hr, hh⟩ := h
  obtain ⟨i, hi⟩ := List.mem_iff_getElem?.1 hr
  by_cases hik : k = i
  · subst hik
    rw [hk] at hi
    injection hi with hi
    subst hi
    exact ⟨old, by simp, hh⟩
  · exact ⟨r, List.mem_append_left _ (List.mem_iff_getElem?.2 ⟨i, by rw [List.getElem?_set_ne hik]; exact hi⟩), hh⟩
theorem OldOk.cell {w : World} {B : Nat} {rs : List Ro} {g n c j : Nat} {ys : List Value} {u : Value} (h : OldOk rs (.slice (some ⟨g, 0, none⟩) n c) ys) (hO : Owns w B rs) (hu : ys[j]? = some u) : w.cell? ⟨g, j, none⟩ = some u := by
  obtain ⟨r, hr, h1, h2, h3, h4⟩ := h
  have hrow := hO.1 r hr
  rw [h1, h2] at hrow
  have hx : r.xs[j]? = some u := by
    obtain ⟨t, ht⟩ := h4
    rw [← ht, List.getElem?_append_left (List.getElem?_eq_some_iff.1 hu).1]
    exact hu
  have := hrow.cells (g := g) (by rw [h3]; rfl) j u hx
  have e1 : (⟨g, 0, none⟩ : Addr).add j = ⟨g, j, none⟩ := by unfold Addr.add; split <;> simp_all
  rwa [e1] at this
def gsRow (v : Value) (k : Nat) (r : Nat → Ro) : Ro := ⟨46, 1, v, k, (List.range k).map fun j => (r j).v⟩
/-- the rows while the first k lists are grown, the next one by i -/
def Pat (K : Nat) (vs : Nat → Value) (ns : Nat → Nat) (r : Nat → Ro) (k i : Nat) : Prop :=
  ∀ j, j < K → r j = ⟨5, 1, (r j).v, ns j + (if j < k then 64 else if j = k then i else 0), mkU j (ns j + (if j < k then 64 else if j = k then i else 0))⟩ ∧ (k < j ∨ (k = j ∧ i = 0) → (r j).v = vs j)
theorem Pat.at_ {K : Nat} {vs : Nat → Value} {ns : Nat → Nat} {r : Nat → Ro} {k i : Nat} (h : Pat K vs ns r k i) (hk : k < K) : r k = ⟨5, 1, (r k).v, ns k + i, mkU k (ns k + i)⟩ := by
  have := (h k hk).1
  rw [if_neg (by omega), if_pos rfl] at this
  exact this
theorem Pat.step {K : Nat} {vs : Nat → Value} {ns : Nat → Nat} {r : Nat → Ro} {k i : Nat} (h : Pat K vs ns r k i) (v' : Value) : Pat K vs ns (updR r k ⟨5, 1, v', ns k + i + 1, mkU k (ns k + i + 1)⟩) k (i + 1) := by
  intro j hj
  unfold updR
  by_cases e : j = k
  · subst e
    rw [if_pos rfl, if_neg (by omega), if_pos rfl]
    exact ⟨rfl, fun x => by omega⟩
  · rw [if_neg e]
    have := h j hj
    rw [if_neg e] at this ⊢
    exact ⟨this.1, fun x => this.2 (by omega)⟩
theorem Pat.next {K : Nat} {vs : Nat → Value} {ns : Nat → Nat} {r : Nat → Ro} {k : Nat} (h : Pat K vs ns r k 64) : Pat K vs ns r (k + 1) 0 := by
  intro j hj
  have := h j hj
  by_cases e : j < k
  · rw [if_pos e] at this
    rw [if_pos (by omega)]
    exact ⟨this.1, fun x => by omega⟩
  · by_cases e2 : j = k
    · subst e2
      rw [if_neg e, if_pos rfl] at this
      rw [if_pos (by omega)]
      exact ⟨this.1, fun x => by omega⟩
    · rw [if_neg e, if_neg e2] at this
      rw [if_neg (by omega)]
      refine ⟨?_, fun x => this.2 (by omega)⟩
      have e3 : (if j = k + 1 then 0 else 0) = 0 := by split <;> rfl
      rw [e3]
      exact this.1
theorem gsRow_upd (v : Value) (k : Nat) (r : Nat → Ro) (x : Ro) : gsRow v k (updR r k x) = gsRow v k r := by
  unfold gsRow
  congr 1
  exact List.map_congr_left (fun j hj => by unfold updR; rw [if_neg (by have := List.mem_range.1 hj; omega)])
theorem gsRow_next (v : Value) (k : Nat) (r : Nat → Ro) : (⟨46, 1, v, k + 1, ((List.range k).map fun j => (r j).v) ++ [(r k).v]⟩ : Ro) = gsRow v (k + 1) r := by
  unfold gsRow
  rw [List.range_succ]
  simp
theorem rowsF_set2 {K : Nat} (r : Nat → Ro) (a b x : Ro) (ex : List Ro) : (rowsF K r ++ a :: b :: ex).set (K + 1) x = rowsF K r ++ a :: x :: ex := by
  rw [List.set_append_right _ _ (by rw [rowsF_len]; omega), rowsF_len, Nat.add_sub_cancel_left]
  rfl
theorem Pat.done {K : Nat} {vs : Nat → Value} {ns : Nat → Nat} {r : Nat → Ro} {j : Nat} (h : Pat K vs ns r K 0) (hj : j < K) : r j = ⟨5, 1, (r j).v, ns j + 64, mkU j (ns j + 64)⟩ := by
  have := (h j hj).1
  rw [if_pos hj] at this
  exact this
theorem apart_last {W : World} {B m q G n c cL : Nat} {vs : Nat → Value} {ns : Nat → Nat} {r : Nat → Ro} {ex : List Ro} {gv : Value} {A : Option Addr}
    (hO : Owns W B (rowsF m r ++ lsRow (some ⟨G, 0, none⟩) m cL vs :: gsRow gv m r :: ex)) (hP : Pat m vs ns r m 0) (hq : q < m) (hOL : OldOk (rowsF m r ++ lsRow (some ⟨G, 0, none⟩) m cL vs :: gsRow gv m r :: ex) (vs q) (mkU q (ns q)))
    (hv : vs q = .slice A n c) (hn : n = ns q) (hA : 0 < n → ∃ g, A = some ⟨g, 0, none⟩) :
    ∃ g' cg g5 c5, gv = .slice (some ⟨g', 0, none⟩) m cg ∧ W.cell? ⟨g', q, none⟩ = some (.slice (some ⟨g5, 0, none⟩) (n + 64) c5) ∧ W.cell? ⟨G, q, none⟩ = some (.slice A n c) ∧
      (∀ i, i < n + 64 → W.cell? ⟨g5, i, none⟩ = some (.int .u8 (mk8 ((q : Int) + 1) i))) ∧ (∀ i, i < n → ∃ g, A = some ⟨g, 0, none⟩ ∧ W.cell? ⟨g, i, none⟩ = some (.int .u8 (mk8 ((q : Int) + 1) i))) := by
  subst hn
  have hgs : (rowsF m r ++ lsRow (some ⟨G, 0, none⟩) m cL vs :: gsRow gv m r :: ex)[m + 1]? = some (gsRow gv m r) := rowsF_ex r (lsRow (some ⟨G, 0, none⟩) m cL vs) (gsRow gv m r :: ex) 1
  obtain ⟨g', cg, hgv⟩ := ownsRow_some (hO.at_ hgs) (show 0 < m by omega)
  have hgv' : gv = .slice (some ⟨g', 0, none⟩) m cg := hgv
  subst hgv'
  have hrow := rowsF_get r (lsRow (some ⟨G, 0, none⟩) m cL vs :: gsRow (.slice (some ⟨g', 0, none⟩) m cg) m r :: ex) hq
  have hd := hP.done hq
  rw [hd] at hrow
  obtain ⟨g5, c5, h5⟩ := ownsRow_some (hO.at_ hrow) (show 0 < ns q + 64 by omega)
  have h6 : (r q).v = .slice (some ⟨g5, 0, none⟩) (ns q + 64) c5 := h5
  rw [h6] at hrow
  refine ⟨g', cg, g5, c5, rfl, ?_, ?_, ?_, ?_⟩
  · have := hO.cell hgs (j := q) (u := (r q).v) (by simp [hq])
    rw [this, h6]
  · have := hO.cell (i := m + 0) (rowsF_ex r (lsRow (some ⟨G, 0, none⟩) m cL vs) (gsRow (.slice (some ⟨g', 0, none⟩) m cg) m r :: ex) 0) (j := q) (u := vs q) (by simp [hq])
    rw [this, hv]
  · intro i hi
    exact hO.cell hrow (mkU_get q _ i hi)
  · intro i hi
    obtain ⟨g, rfl⟩ := hA (by omega)
    rw [hv] at hOL
    exact ⟨g, rfl, hOL.cell hO (mkU_get q _ i hi)⟩
theorem apart_info : (Try.prog.info? 46).map (fun i => (i.zero, i.size, i.bytes)) = some (some (.slice none 0 0), 1, 24) := by kernel_rfl
theorem apart_u8 : (Try.prog.info? 5).map (fun i => (i.zero, i.size, i.bytes)) = some (some (.int .u8 0), 1, 1) := by kernel_rfl

set_option maxRecDepth 100000 in
set_option maxHeartbeats 1000000 in
theorem Apart_any (AL : Option Addr) (K cL B : Nat) (vs : Nat → Value) (ns : Nat → Nat) (fs : Nat → List Int) (ex0 : List Ro) (w : World) (hO : Owns w B (rowsF K (rowB vs ns fs) ++ lsRow AL K cL vs :: ex0)) (hlen : ∀ j, j < K → (fs j).length = ns j) (hB : B ≤ w.heap.size)
    (hn : ∀ j, j < K → ns j ≤ 140737488355264) (hK : K ≤ 4398046511104) :
    Calls Try.prog 88 #[.slice AL K cL] w fun e w' => e = .returned (.bool true) ∧ Owns w' B ex0 ∧ Below B w w' := by
  obtain ⟨i0, hi0, hz0, hz1, hz2⟩ := info_parts apart_u8
  obtain ⟨i1, hi1, hy0, hy1, hy2⟩ := info_parts apart_info
  have HLEN := hide_ hlen
  have HN := hide_ hn
  clear hlen hn
  go_enter Try.func88, Try.ntmps88
  go_wp2
  go_loopw [3] (fun i wr => ∃ k : Nat, k ≤ K ∧ i = .int .i64 k ∧ Owns wr B (rowsF K (rowB vs ns (markF ns fs k)) ++ lsRow AL K cL vs :: ex0) ∧ Below B w wr) (fun i _ => K - (intOf i).toNat)
  case atStart =>
    refine ⟨0, Nat.zero_le _, rfl, ?_, Below.refl _ _⟩
    have : markF ns fs 0 = fs := by funext j; simp [markF]
    rw [this]
    exact hO
  case round =>
    obtain ⟨k, hk, rfl, hOk, hb⟩ := hrel
    by_cases hlt : k < K
    · obtain ⟨G, rfl⟩ := ls_some hOk (show 0 < K by omega)
      have hnk := HN.out k hlt
      obtain ⟨A0, c0, hv0, hc0, hc1⟩ := ownsRow_slice (hOk.at_ (rowsF_get (rowB vs ns (markF ns fs k)) (lsRow (some ⟨G, 0, none⟩) K cL vs :: ex0) hlt))
      have hv1 : vs k = .slice A0 (ns k) c0 := hv0
      have hc0' : ns k ≤ c0 := hc0
      have hc1' : c0 ≤ maxLen := hc1
      obtain ⟨n, hnn⟩ : ∃ n, n = ns k := ⟨_, rfl⟩
      rw [← hnn] at hnk hc0' hv1
      have HNN := hide_ hnn
      have HV := hide_ hv1
      clear hv0 hv1 hc0 hc1 hnn hO
      have hls : ∀ (W : World) (f : Nat → List Int), Owns W B (rowsF K (rowB vs ns f) ++ lsRow (some ⟨G, 0, none⟩) K cL vs :: ex0) → W.cell? ⟨G, k, none⟩ = some (.slice A0 n c0) := fun W f h => by
        have := h.cell (i := K + 0) (rowsF_ex (rowB vs ns f) (lsRow (some ⟨G, 0, none⟩) K cL vs) ex0 0) (j := k) (u := vs k) (by simp [hlt])
        rw [this, HV.out]
      have HLS := hide_ hls
      have hcl := hls wr _ hOk
      clear hls
      go_wp2
      go_loopw [4] (fun i wr => ∃ j : Nat, j ≤ n ∧ i = .int .i64 j ∧ Owns wr B (rowsF K (rowB vs ns (updF (markF ns fs k) k (marks8 ((k : Int) + 1) 0 j ++ (fs k).drop j))) ++ lsRow (some ⟨G, 0, none⟩) K cL vs :: ex0) ∧ Below B w wr) (fun i _ => n - (intOf i).toNat)
      case atStart =>
        refine ⟨0, Nat.zero_le _, rfl, ?_, hb⟩
        have e1 : marks8 ((k : Int) + 1) 0 0 ++ (fs k).drop 0 = markF ns fs k k := by simp [marks8, markF]
        rw [e1, upd_self]
        exact hOk
      case round =>
        obtain ⟨j, hj, rfl, hOj, hbj⟩ := hrel
        have hcj := HLS.out wr _ hOj
        by_cases hlt2 : j < n
        · have hrow := hOj.at_ (rowsF_get (rowB vs ns (updF (markF ns fs k) k (marks8 ((k : Int) + 1) 0 j ++ (fs k).drop j))) (lsRow (some ⟨G, 0, none⟩) K cL vs :: ex0) hlt)
          obtain ⟨g, c1, hv2⟩ := ownsRow_some hrow (show 0 < ns k by rw [← HNN.out]; omega)
          have hv3 : vs k = .slice (some ⟨g, 0, none⟩) (ns k) c1 := hv2
          rw [HV.out] at hv3
          injection hv3 with e1 e2 e3
          subst e1 e3
          obtain ⟨X, hX⟩ : ∃ X, X = marks8 ((k : Int) + 1) 0 j ++ (fs k).drop j := ⟨_, rfl⟩
          have hjf : j < (fs k).length := by rw [HLEN.out k hlt, ← HNN.out]; exact hlt2
          have hXl : j < X.length := by rw [hX, List.length_append, marks8_len, List.length_drop]; omega
          rw [← hX] at hOj
          have hrk := apart_row (ex := lsRow (some ⟨G, 0, none⟩) K cL vs :: ex0) (f := markF ns fs k) hlt X HV.out HNN.out
          have hcell : wr.cell? ⟨g, j, none⟩ = some (.int .u8 (X[j]?.getD 0)) := hOj.cell hrk (by rw [List.getElem?_map, List.getElem?_eq_getElem hXl]; rfl)
          have hfz := hOj.frozen hrk j
          have hst := apart_store hlt X HV.out HNN.out hOj hXl (mk8 ((k : Int) + 1) j)
          rw [hX, over_set3 _ _ _ hjf] at hst
          have hgb := hOj.base hrk
          have HST := hide_ hst
          have hw1 : IntKind.i64.wrap ((k : Int) + 1) = (k : Int) + 1 := by rw [IntKind.wrap_i64]; omega
          clear hst hX hXl hrow hv2 hOk hOj hcl
          go_wp2
          go_region_with (go_at_call 108; refine (markBytes_any _ _ _).mono ?_; rintro e w' ⟨rfl, rfl⟩)
          all_goals
            go_wp2
            go_roundw
            case rel => exact ⟨j + 1, by omega, by go_num, HST.out, hbj.drew.setCell (p := ⟨g, j, none⟩) hgb.1 _⟩
            case measure => simp [intOf]; omega
        · obtain rfl : j = n := by omega
          have hfl : (fs k).drop j = [] := List.drop_eq_nil_of_le (by rw [HLEN.out k hlt, ← HNN.out]; omega)
          rw [hfl, List.append_nil] at hOj
          have hms := mark_step ns fs k
          rw [← HNN.out] at hms
          have HMS := hide_ hms
          clear hfl hms hcl hOk
          go_wp2
          go_roundw
          case rel =>
            refine ⟨k + 1, by omega, by go_num, ?_, hbj⟩
            rw [HMS.out]
            exact hOj
          case measure => simp [intOf]; omega
    · obtain rfl : k = K := by omega
      have hP0 : Pat k vs ns (rowB vs ns (markF ns fs k)) 0 0 := fun j hj => by
        have e3 : (if j < 0 then 64 else if j = 0 then 0 else 0) = 0 := by split <;> (try split) <;> first | rfl | omega
        rw [e3, Nat.add_zero]
        refine ⟨?_, fun _ => rfl⟩
        unfold rowB mkU markF
        rw [if_pos hj]
      have hold : ∀ j, j < k → OldOk (rowsF k (rowB vs ns (markF ns fs k)) ++ lsRow AL k cL vs :: gsRow (.slice none 0 0) 0 (rowB vs ns (markF ns fs k)) :: ex0) (vs j) (mkU j (ns j)) := fun j hj =>
        ⟨rowB vs ns (markF ns fs k) j, List.mem_of_getElem? (rowsF_get _ _ hj), rfl, rfl, rfl, by unfold rowB mkU markF; rw [if_pos hj]; exact List.prefix_refl _⟩
      have hvs : ∀ j, j < k → ∃ A c, vs j = .slice A (ns j) c ∧ (0 < ns j → ∃ g, A = some ⟨g, 0, none⟩) := fun j hj => by
        have h1 := hOk.at_ (rowsF_get (rowB vs ns (markF ns fs k)) (lsRow AL k cL vs :: ex0) hj)
        obtain ⟨A, c, h2, _, _⟩ := ownsRow_slice h1
        have h3 : vs j = .slice A (ns j) c := h2
        refine ⟨A, c, h3, fun h0 => ?_⟩
        obtain ⟨g, c', h4⟩ := ownsRow_some h1 h0
        have h5 : vs j = .slice (some ⟨g, 0, none⟩) (ns j) c' := h4
        rw [h3] at h5
        injection h5 with h5
        exact ⟨g, h5⟩
      have HVS := hide_ hvs
      clear hvs
      have hO2 : Owns wr B (rowsF k (rowB vs ns (markF ns fs k)) ++ lsRow AL k cL vs :: gsRow (.slice none 0 0) 0 (rowB vs ns (markF ns fs k)) :: ex0) := by
        have h1 := hOk.nilrow 46 1
        exact h1.swap (by
          rw [List.append_assoc, List.cons_append]
          refine List.Perm.append_left _ (List.Perm.cons _ ?_)
          exact List.perm_append_singleton _ _)
      have HP0 := hide_ hP0
      have HOLD := hide_ hold
      clear hP0 hold hOk hO
      go_wp2
      go_loopw [5, 6] (fun gv i wr => ∃ (m : Nat) (r : Nat → Ro) (ex : List Ro), m ≤ k ∧ i = .int .i64 m ∧ Hid (Pat k vs ns r m 0) ∧ Owns wr B (rowsF k r ++ lsRow AL k cL vs :: gsRow gv m r :: (ex0 ++ ex)) ∧ Hid (∀ j, j < k → OldOk (rowsF k r ++ lsRow AL k cL vs :: gsRow gv m r :: (ex0 ++ ex)) (vs j) (mkU j (ns j))) ∧ Below B w wr) (fun _ i _ => k - (intOf i).toNat)
      case atStart => exact ⟨0, _, [], Nat.zero_le _, rfl, HP0, by rw [List.append_nil]; exact hO2, by rw [List.append_nil]; exact HOLD, hb⟩
      case round =>
        clear hO2 HP0 HOLD
        obtain ⟨m, r, ex, hm, rfl, HP, hO, HOL, hb2⟩ := hrel
        by_cases hlt : m < k
        · obtain ⟨G, rfl⟩ := ls_some hO (show 0 < k by omega)
          have hnm := HN.out m hlt
          have hv1 := (HP.out m hlt).2 (.inr ⟨rfl, rfl⟩)
          obtain ⟨A0, c0, hv0, hc0, hc1⟩ := ownsRow_slice (hO.at_ (rowsF_get r _ hlt))
          have hrm := HP.out.at_ hlt
          have hv2 : (r m).v = .slice A0 (ns m) c0 := by rw [hv0, hrm]; rfl
          have hv3 : vs m = .slice A0 (ns m) c0 := by rw [← hv1, hv2]
          obtain ⟨n, hnn⟩ : ∃ n, n = ns m := ⟨_, rfl⟩
          rw [← hnn] at hv2 hv3 hnm
          have HNN := hide_ hnn
          have HV2 := hide_ hv2
          have HV3 := hide_ hv3
          have hcl : ∀ (W : World) (r : Nat → Ro) (gv : Value) (q : Nat) (ex : List Ro), Owns W B (rowsF k r ++ lsRow (some ⟨G, 0, none⟩) k cL vs :: gsRow gv q r :: ex) → W.cell? ⟨G, m, none⟩ = some (.slice A0 n c0) := fun W r gv q ex h => by
            have := h.cell (i := k + 0) (rowsF_ex r (lsRow (some ⟨G, 0, none⟩) k cL vs) (gsRow gv q r :: ex) 0) (j := m) (u := vs m) (by simp [hlt])
            rw [this, HV3.out]
          have HCL := hide_ hcl
          have hcl0 := hcl wr r _ _ _ hO
          clear hcl hv0 hv1 hv2 hv3 hrm hnn hc0 hc1
          obtain ⟨Ag, cg, hgv, hcg0, hcg1⟩ := ownsRow_slice (hO.at_ (i := k + 1) (rowsF_ex r (lsRow (some ⟨G, 0, none⟩) k cL vs) (gsRow _ m r :: (ex0 ++ ex)) 1))
          simp only [gsRow] at hgv
          subst hgv
          go_wp2
          go_loopw [7, 8] (fun g i wr => ∃ (i' : Nat) (r : Nat → Ro) (ex : List Ro), i' ≤ 64 ∧ i = .int .i64 i' ∧ g = (r m).v ∧ Hid (Pat k vs ns r m i') ∧ Owns wr B (rowsF k r ++ lsRow (some ⟨G, 0, none⟩) k cL vs :: gsRow (.slice Ag m cg) m r :: (ex0 ++ ex)) ∧ Hid (∀ j, j < k → OldOk (rowsF k r ++ lsRow (some ⟨G, 0, none⟩) k cL vs :: gsRow (.slice Ag m cg) m r :: (ex0 ++ ex)) (vs j) (mkU j (ns j))) ∧ Below B w wr) (fun _ i _ => 64 - (intOf i).toNat)
          case atStart => exact ⟨0, r, ex, Nat.zero_le _, rfl, HV2.out.symm, HP, hO, HOL, hb2⟩
          case round =>
            clear hO HOL HP hcl0 hb2
            obtain ⟨i, r', ex', hi, rfl, rfl, HP, hO, HOL, hb3⟩ := hrel
            have hrm := HP.out.at_ hlt
            have hget := rowsF_get r' (lsRow (some ⟨G, 0, none⟩) k cL vs :: gsRow (.slice Ag m cg) m r' :: (ex0 ++ ex')) hlt
            rw [hrm, ← HNN.out] at hget
            obtain ⟨A5, c5, hv5, _, _⟩ := ownsRow_slice (hO.at_ hget)
            have hv6 : (r' m).v = .slice A5 (n + i) c5 := hv5
            rw [hv6] at hget ⊢
            have HV6 := hide_ hv6
            have HGET := hide_ hget
            have hcl0 := HCL.out wr r' _ _ _ hO
            have hsz := hb3.size
            clear hrm hv5 hv6 hget
            by_cases hlt3 : i < 64
            · have HMS := hide_ (show mkU m (n + i + 1) = mkU m (n + i) ++ [.int .u8 (mk8 ((m : Int) + 1) ((n : Int) + (i : Int)))] by rw [mkU_succ]; rw [show ((n : Int) + (i : Int)) = ((n + i : Nat) : Int) by omega])
              go_wp2_with (first
                | (go_at_call 108; refine (markBytes_any _ _ _).mono ?_; rintro e w' ⟨rfl, rfl⟩)
                | (at_builtin; refine wpList_append_split _ rfl (.tmp 51) (.tmp 62) 46 rfl B _ m 5 (.slice A5 (n + i) c5) (n + i) (mkU m (n + i)) HGET.out (hO.alloc _) (by simp; omega) i0 _ 1 Try.underlying46 hi0 hz0 hz1 hz2 rfl rfl _ _ 1 1 [.int .u8 (mk8 ((m : Int) + 1) ((n : Int) + (i : Int)))] rfl (reads_new wr 5 1 1 [.int .u8 (mk8 ((m : Int) + 1) ((n : Int) + (i : Int)))] rfl) (by simp [Value.oneCell']) (by omega) (by simp only [maxLen]; omega) (by omega) ?_; intro v7 w7 hsp hb7 hsz7))
              have hb8 : Below B w w7 := (hb3.alloc (by omega) _).trans hb7
              have HSP := hide_ hsp
              clear hsp hb7 hO
              go_roundw
              case rel =>
                have hnn := HNN.out
                have hms := HMS.out
                have hgt := HGET.out
                subst hnn
                rcases HSP.out with ⟨hob, hO1⟩ | hO1
                · rw [← hms, rowsF_set _ _ _ hlt] at hO1
                  refine ⟨i + 1, updR r' m ⟨5, 1, v7, ns m + i + 1, mkU m (ns m + i + 1)⟩, ex', by omega, by go_num, by simp [updR], hide_ (HP.out.step v7), ?_, hide_ (fun j hj => ?_), hb8⟩
                  · rw [gsRow_upd]; exact hO1
                  · have := (HOL.out j hj).set hgt ⟨5, 1, v7, ns m + i + 1, mkU m (ns m + i + 1)⟩ (.inr ⟨rfl, rfl, hob, by rw [hms]; exact List.prefix_append _ _⟩)
                    rw [rowsF_set _ _ _ hlt] at this
                    rw [gsRow_upd]; exact this
                · rw [← hms, rowsF_set _ _ _ hlt, List.append_assoc, List.cons_append, List.cons_append, List.append_assoc] at hO1
                  refine ⟨i + 1, updR r' m ⟨5, 1, v7, ns m + i + 1, mkU m (ns m + i + 1)⟩, ex' ++ [⟨5, 1, .slice A5 (ns m + i) c5, ns m + i, mkU m (ns m + i)⟩], by omega, by go_num, by simp [updR], hide_ (HP.out.step v7), ?_, hide_ (fun j hj => ?_), hb8⟩
                  · rw [gsRow_upd]; exact hO1
                  · have := (HOL.out j hj).moved hgt ⟨5, 1, v7, ns m + i + 1, mkU m (ns m + i + 1)⟩
                    rw [rowsF_set _ _ _ hlt, List.append_assoc, List.cons_append, List.cons_append, List.append_assoc] at this
                    rw [gsRow_upd]; exact this
              case measure => simp [intOf]; omega
            · obtain rfl : i = 64 := by omega
              have HGS := hide_ (show (rowsF k r' ++ lsRow (some ⟨G, 0, none⟩) k cL vs :: gsRow (.slice Ag m cg) m r' :: (ex0 ++ ex'))[k + 1]? = some (gsRow (.slice Ag m cg) m r') from rowsF_ex r' (lsRow (some ⟨G, 0, none⟩) k cL vs) (gsRow (.slice Ag m cg) m r' :: (ex0 ++ ex')) 1)
              go_wp2_with (at_builtin; refine wpList_append_owns _ rfl (.tmp 64) (.tmp 66) 30 rfl B _ (k + 1) 46 1 (.slice Ag m cg) m ((List.range m).map fun j => (r' j).v) HGS.out (hO.alloc _) (by simp; omega) i1 _ 24 Try.underlying30 hi1 hy0 hy1 hy2 rfl (by omega) rfl _ _ 1 1 [.slice A5 (n + 64) c5] rfl (reads_new wr 46 1 1 [.slice A5 (n + 64) c5] rfl) (by simp [Value.oneCell']) (by simp only [maxLen]; omega) (by omega) ?_; intro v7 w7 hO7 hb7 hsz7)
              have hb8 : Below B w w7 := (hb3.alloc (by omega) _).trans hb7
              have HO7 := hide_ hO7
              clear hO7 hb7 hO
              go_roundw
              case rel =>
                have hO8 := HO7.out
                rw [rowsF_set2, ← HV6.out, gsRow_next] at hO8
                refine ⟨m + 1, r', ex', by omega, by go_num, hide_ HP.out.next, hO8, hide_ (fun j hj => ?_), hb8⟩
                have := (HOL.out j hj).set HGS.out (gsRow v7 (m + 1) r') (.inl (show (46 : TypeId) ≠ 5 by decide))
                rw [rowsF_set2] at this
                exact this
              case measure => simp [intOf]; omega
        · obtain rfl : m = k := by omega
          have HO := hide_ hO
          clear hO
          go_wp2
          go_loopw [9] (fun i W => ∃ q : Nat, q ≤ m ∧ i = .int .i64 q ∧ W = wr) (fun i _ => m - (intOf i).toNat)
          case atStart => exact ⟨0, Nat.zero_le _, rfl, rfl⟩
          case round =>
            obtain ⟨q, hq, rfl, rfl⟩ := hrel
            by_cases hq2 : q < m
            · obtain ⟨G, rfl⟩ := ls_some HO.out (show 0 < m by omega)
              have hnq := HN.out q hq2
              obtain ⟨A, c, hv, hA⟩ := HVS.out q hq2
              obtain ⟨n, hnn⟩ : ∃ n, n = ns q := ⟨_, rfl⟩
              rw [← hnn] at hnq hv hA
              obtain ⟨g', cg, g5, c5, rfl, hc1, hc2, hc3, hc4⟩ := apart_last HO.out HP.out hq2 (HOL.out q hq2) hv hnn hA
              have HC3 := hide_ hc3
              have HC4 := hide_ hc4
              clear hc3 hc4 hnn hv hA
              go_wp2
              go_loopw [10] (fun i W => ∃ j : Nat, j ≤ n + 64 ∧ i = .int .i64 j ∧ W = wr) (fun i _ => n + 64 - (intOf i).toNat)
              case atStart => exact ⟨0, Nat.zero_le _, rfl, rfl⟩
              case round =>
                obtain ⟨j, hj, rfl, rfl⟩ := hrel
                by_cases hj2 : j < n + 64
                · have hx := HC3.out j hj2
                  by_cases hj3 : j < n
                  · obtain ⟨g, rfl, hy⟩ := HC4.out j hj3
                    go_wp2_with (go_at_call 108; refine (markBytes_any _ _ _).mono ?_; rintro e w' ⟨rfl, rfl⟩)
                    go_roundw
                    case rel => exact ⟨j + 1, by omega, by go_num, by trivial⟩
                    case measure => simp [intOf]; omega
                  · go_wp2_with (go_at_call 108; refine (markBytes_any _ _ _).mono ?_; rintro e w' ⟨rfl, rfl⟩)
                    go_roundw
                    case rel => exact ⟨j + 1, by omega, by go_num, by trivial⟩
                    case measure => simp [intOf]; omega
                · obtain rfl : j = n + 64 := by omega
                  go_wp2
                  go_roundw
                  case rel => exact ⟨q + 1, by omega, by go_num, by trivial⟩
                  case measure => simp [intOf]; omega
            · obtain rfl : q = m := by omega
              go_wp2
              go_ret
              exact ⟨rfl, HO.out.sub ((List.sublist_append_left ex0 ex).trans ((List.sublist_cons_self _ _).trans ((List.sublist_cons_self _ _).trans (List.sublist_append_right _ _)))), hb2⟩
end Go.Proofs.Ytgppbdcnpailaaa
