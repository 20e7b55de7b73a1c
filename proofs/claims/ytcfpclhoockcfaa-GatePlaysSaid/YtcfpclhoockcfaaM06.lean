/-
  Rows, and blocks that stay as they were: what is owned while other memory is held still.
-/
import Derived.Test.YtcfpclhoockcfaaM05
import Derived.Laws.CopyOwn
import Derived.Test.YtcfpclhoockcfaaM01
import Derived.Laws.BitsAllLaws
import Derived.Test.YtcfpclhoockcfaaM03
namespace Go.Proofs.Ytcfpclhoockcfaa
open Go.RowKit Go.PlainAid Go.BigFrame
set_option linter.unusedVariables false
/-- rows; the blocks F hold what they held in w0, and no row lies in them -/
structure OwnsF (F : Nat → Prop) (w0 w : World) (B : Nat) (rs : List Ro) : Prop where
  own : Owns w B rs
  old : ∀ k, F k → k < w.heap.size ∧ w.heap[k]? = w0.heap[k]?
  far : ∀ k, F k → ∀ r ∈ rs, r.v.ownBlock ≠ some k
section
variable {F : Nat → Prop} {w0 w w' : World} {B : Nat} {rs : List Ro}
theorem OwnsF.start (h : Owns w B rs) (hF : ∀ k, F k → k < w.heap.size ∧ ∀ r ∈ rs, r.v.ownBlock ≠ some k) : OwnsF F w w B rs := ⟨h, fun k hk => ⟨(hF k hk).1, rfl⟩, fun k hk => (hF k hk).2⟩
theorem OwnsF.at_ (h : OwnsF F w0 w B rs) {i : Nat} {r : Ro} (hr : rs[i]? = some r) : w.ownsRow B r.e r.size r.v r.n r.xs := h.own.at_ hr
theorem OwnsF.drew (h : OwnsF F w0 w B rs) : OwnsF F w0 w.drew B rs := ⟨h.own.drew, h.old, h.far⟩
theorem OwnsF.drewN (h : OwnsF F w0 w B rs) (k : Nat) : OwnsF F w0 (w.drewN k) B rs := ⟨h.own.drewN k, h.old, h.far⟩
theorem OwnsF.below (h : OwnsF F w0 w B rs) (hb : Below w.heap.size w w') : OwnsF F w0 w' B rs :=
  ⟨h.own.below hb, fun k hk => ⟨Nat.lt_of_lt_of_le (h.old k hk).1 hb.size, (hb.block k (h.old k hk).1).trans (h.old k hk).2⟩, h.far⟩
theorem OwnsF.alloc (h : OwnsF F w0 w B rs) (o : Obj) : OwnsF F w0 (w.alloc o) B rs := h.below ((Below.refl _ _).alloc (Nat.le_refl _) _)
theorem OwnsF.swap (h : OwnsF F w0 w B rs) {qs : List Ro} (hp : rs.Perm qs) : OwnsF F w0 w B qs := ⟨h.own.swap hp, h.old, fun k hk r hr => h.far k hk r (hp.mem_iff.2 hr)⟩
theorem OwnsF.sub (h : OwnsF F w0 w B rs) {qs : List Ro} (hs : qs.Sublist rs) : OwnsF F w0 w B qs := ⟨h.own.sub hs, h.old, fun k hk r hr => h.far k hk r (hs.subset hr)⟩
theorem OwnsF.pick (h : OwnsF F w0 w B rs) {m : List Ro} (d : List Ro)
    (hc : ∀ (cnt : List Ro → Nat) (one : Ro → Nat), (∀ x y, cnt (x ++ y) = cnt x + cnt y) → (∀ x l, cnt (x :: l) = one x + cnt l) → cnt [] = 0 → cnt rs = cnt d + cnt m) : OwnsF F w0 w B m := by
  classical
  have hp : rs.Perm (d ++ m) := List.perm_iff_count.2 fun a => by
    rw [List.count_append]
    exact hc (fun l => List.count a l) (fun x => if x == a then 1 else 0) (fun x y => List.count_append) (fun x l => by rw [List.count_cons]; omega) rfl
  exact (h.swap hp).sub (List.sublist_append_right _ _)
theorem OwnsF.perm (h : OwnsF F w0 w B rs) {m : List Ro}
    (hc : ∀ (cnt : List Ro → Nat) (one : Ro → Nat), (∀ x y, cnt (x ++ y) = cnt x + cnt y) → (∀ x l, cnt (x :: l) = one x + cnt l) → cnt [] = 0 → cnt rs = cnt m) : OwnsF F w0 w B m :=
  h.pick [] fun cnt one h1 h2 h3 => by rw [h3, hc cnt one h1 h2 h3]; omega
theorem OwnsF.nilrow (h : OwnsF F w0 w B rs) (e : TypeId) (size : Nat) : OwnsF F w0 w B (rs ++ [⟨e, size, .slice none 0 0, 0, []⟩]) :=
  ⟨h.own.nilrow e size, h.old, fun k hk r hr => by
    rcases List.mem_append.1 hr with hr | hr
    · exact h.far k hk r hr
    · rw [List.mem_singleton.1 hr]; simp [Value.ownBlock]⟩
theorem OwnsF.push (h : OwnsF F w0 w B rs) (hb : Below w.heap.size w w') {r : Ro} (hr : w'.ownsRow w.heap.size r.e r.size r.v r.n r.xs) (hB : B ≤ w.heap.size) : OwnsF F w0 w' B (rs ++ [r]) :=
  ⟨h.own.push hb hr hB, (h.below hb).old, fun k hk s hs => by
    rcases List.mem_append.1 hs with hs | hs
    · exact h.far k hk s hs
    · rw [List.mem_singleton.1 hs]
      intro e
      have h1 := (hr.lt k e).1
      have h2 := (h.old k hk).1
      omega⟩
theorem OwnsF.box (h : OwnsF F w0 w B rs) (t : TypeId) (cs : Array Value) (hB : B ≤ w.heap.size) (hm : cs.size ≤ maxLen) :
    OwnsF F w0 (w.alloc (.cells cs t)) B (rs ++ [⟨t, 1, .slice (some ⟨w.heap.size, 0, none⟩) cs.size cs.size, cs.size, cs.toList⟩]) :=
  h.push ((Below.refl _ _).alloc (Nat.le_refl _) _) (blk_own (Blk.new w t cs) (Nat.le_refl _) hm) hB
theorem OwnsF.cell (h : OwnsF F w0 w B rs) {i : Nat} {e : TypeId} {size n g c j : Nat} {xs : List Value} {u : Value} (hr : rs[i]? = some ⟨e, size, .slice (some ⟨g, 0, none⟩) n c, n, xs⟩) (hu : xs[j]? = some u) :
    w.cell? ⟨g, j, none⟩ = some u := h.own.cell hr hu
theorem OwnsF.frozen (h : OwnsF F w0 w B rs) {i : Nat} {e : TypeId} {size n g c : Nat} {xs : List Value} (hr : rs[i]? = some ⟨e, size, .slice (some ⟨g, 0, none⟩) n c, n, xs⟩) (j : Nat) : w.frozen? ⟨g, j, none⟩ = false := h.own.frozen hr j
theorem OwnsF.base (h : OwnsF F w0 w B rs) {i : Nat} {e : TypeId} {size n g c : Nat} {xs : List Value} (hr : rs[i]? = some ⟨e, size, .slice (some ⟨g, 0, none⟩) n c, n, xs⟩) : B ≤ g ∧ g < w.heap.size := h.own.base hr
theorem mem_set_row {rs : List Ro} {i : Nat} {a r : Ro} (h : r ∈ rs.set i a) : r ∈ rs ∨ r = a := List.mem_or_eq_of_mem_set h
/-- one cell of a row is written -/
theorem OwnsF.store (h : OwnsF F w0 w B rs) {i : Nat} {e : TypeId} {size n g c j : Nat} {xs : List Value} (hr : rs[i]? = some ⟨e, size, .slice (some ⟨g, 0, none⟩) n c, n, xs⟩) (hj : j < xs.length) (u : Value) :
    OwnsF F w0 (w.setCell ⟨g, j, none⟩ u) B (rs.set i ⟨e, size, .slice (some ⟨g, 0, none⟩) n c, n, xs.set j u⟩) := by
  refine ⟨h.own.store hr hj u, fun k hk => ?_, fun k hk r hm => ?_⟩
  · have h1 := h.old k hk
    have h2 : g ≠ k := fun e => h.far k hk _ (List.mem_of_getElem? hr) (by rw [e]; rfl)
    refine ⟨by simpa using h1.1, Eq.trans ?_ h1.2⟩
    have h3 : (w.setCell ⟨g, j, none⟩ u).heap[k]? = w.heap[k]? := Below.heap_setCell w ⟨g, j, none⟩ u k (fun e => h2 e.symm)
    exact h3
  · rcases mem_set_row hm with hm | rfl
    · exact h.far k hk r hm
    · exact fun he => h.far k hk ⟨e, size, .slice (some ⟨g, 0, none⟩) n c, n, xs⟩ (List.mem_of_getElem? hr) he
/-- one row turned: in place, or in a new block -/
theorem OwnsF.turn (h : OwnsF F w0 w B rs) {i : Nat} {r r' : Ro} (hr : rs[i]? = some r) (hg : w.grownBy w' r.v.ownBlock) (hr' : w'.ownsRow B r'.e r'.size r'.v r'.n r'.xs)
    (hw : r'.v.ownBlock = r.v.ownBlock ∨ r'.v.ownBlock = none ∨ ∃ k, r'.v.ownBlock = some k ∧ w.heap.size ≤ k) : OwnsF F w0 w' B (rs.set i r') := by
  refine ⟨h.own.turn hr hg hr' hw, fun k hk => ?_, fun k hk s hs => ?_⟩
  · have h1 := h.old k hk
    exact ⟨Nat.lt_of_lt_of_le h1.1 hg.size, (hg.block k h1.1 (fun e => h.far k hk r (List.mem_of_getElem? hr) e.symm)).trans h1.2⟩
  · rcases mem_set_row hs with hs | rfl
    · exact h.far k hk s hs
    · rcases hw with hw | hw | ⟨q, hw, hq⟩
      · rw [hw]; exact h.far k hk r (List.mem_of_getElem? hr)
      · rw [hw]; simp
      · rw [hw]
        intro e
        injection e with e
        have := (h.old k hk).1
        omega
theorem wpList_append_ownsF {P : Program} (w : World) {w0 : World} {F : Nat → Prop} {ops : Array Oper} {rest : List Oper} {o : Oper} {a : Act} {Q : Exit → Act → World → Prop} (hgd : o.guard = none) (s x : Operand) (t : TypeId)
    (ho : o.op = .call { callee := .builtin .append, args := #[s, x], argTypes := #[t, t] })
    (B : Nat) (rs : List Ro) (k : Nat) (e : TypeId) (size : Nat) (v : Value) (n : Nat) (xs : List Value) (hr : rs[k]? = some ⟨e, size, v, n, xs⟩) (hO : OwnsF F w0 w B rs) (hB : B ≤ w.heap.size)
    (i : TypeInfo) (z : Value) (bytes : Nat) (ht : P.underlying t = some (.slice e)) (hi : P.info? e = some i) (hz : i.zero = some z)
    (hsize : i.size = size) (hby : i.bytes = bytes) (hzs : z.cells.size = size) (hsz : 0 < size)
    (hs : a.eval s = v)
    (B' : Nat) (A : Option Addr) (m c : Nat) (news : List Value) (hx : a.eval x = .slice A m c) (hn : Reads w B' size A m news) (h1 : ∀ u ∈ news, u.oneCell' = true)
    (h63 : n + m ≤ maxLen) (hbytes : (n + m) * bytes ≤ 140737488355328)
    (h : ∀ v' w', OwnsF F w0 w' B (rs.set k ⟨e, size, v', n + m, xs ++ news⟩) → Below B w w' → w.heap.size ≤ w'.heap.size → wpList P ops Q rest (a.put o.dst v') w') : wpList P ops Q (o :: rest) a w := by
  refine wpList_append_any w hgd s x t ho B e i z size bytes ht hi hz hsize hby hzs hsz v n xs hs (hO.at_ hr) B' A m c news hx hn h1 h63 hbytes hB ?_
  intro v' w' hown hg hat
  refine h v' w' (hO.turn hr hg hown ?_) ((Below.refl _ _).grown hg hB (fun j hj => (hO.own.lt_ (List.mem_of_getElem? hr) hj).1)) hg.size
  rcases hat with h2 | h2
  · exact .inl h2
  · exact .inr (.inr ⟨_, h2, Nat.le_refl _⟩)
theorem wpList_append_splitKF {P : Program} (w : World) {w0 : World} {F : Nat → Prop} {ops : Array Oper} {rest : List Oper} {o : Oper} {a : Act} {Q : Exit → Act → World → Prop} (hgd : o.guard = none) (s x : Operand) (t : TypeId)
    (ho : o.op = .call { callee := .builtin .append, args := #[s, x], argTypes := #[t, t] })
    (B : Nat) (rs : List Ro) (k : Nat) (e : TypeId) (size : Nat) (v : Value) (n : Nat) (xs : List Value) (hr : rs[k]? = some ⟨e, size, v, n, xs⟩) (hO : OwnsF F w0 w B rs) (hB : B ≤ w.heap.size)
    (i : TypeInfo) (z : Value) (bytes : Nat) (hsz : 0 < size) (ht : P.underlying t = some (.slice e)) (hi : P.info? e = some i) (hz : i.zero = some z)
    (hsize : i.size = size) (hby : i.bytes = bytes) (hzs : z.cells.size = size)
    (hs : a.eval s = v)
    (B' : Nat) (A : Option Addr) (m c : Nat) (news : List Value) (hx : a.eval x = .slice A m c) (hn : Reads w B' size A m news) (h1 : ∀ u ∈ news, u.oneCell' = true) (hm : 0 < m)
    (h63 : n + m ≤ maxLen) (hbytes : (n + m) * bytes ≤ 140737488355328)
    (h : ∀ v' w', ((v'.ownBlock = v.ownBlock ∧ OwnsF F w0 w' B (rs.set k ⟨e, size, v', n + m, xs ++ news⟩)) ∨ OwnsF F w0 w' B (rs.set k ⟨e, size, v', n + m, xs ++ news⟩ ++ [⟨e, size, v, n, xs⟩])) → Below B w w' → w.heap.size ≤ w'.heap.size → wpList P ops Q rest (a.put o.dst v') w') : wpList P ops Q (o :: rest) a w := by
  refine wpList_plain hgd fun K hK => ?_
  obtain ⟨v', w', hrun, hown, hg, hat⟩ := run_append_splitK (P := P) w B t o.type e i z size bytes hsz ht hi hz hsize hby hzs v n xs (hO.at_ hr) B' A m c news hn h1 hm h63 hbytes hB
  unfold Oper.wp execOp
  simp only [ho, resolve, invoke, builtin, Sem.run_bind, Sem.run_pure, Result.andThen_ok, List.map_toArray, List.map_cons, List.map_nil, hs, hx, hrun]
  refine hK _ _ (h v' w' ?_ ((Below.refl _ _).grown hg hB (fun j hj => (hO.own.lt_ (List.mem_of_getElem? hr) hj).1)) hg.size)
  rcases hat with ⟨h2, _⟩ | ⟨h2, h3⟩
  · exact .inl ⟨h2, hO.turn hr hg hown (.inl h2)⟩
  · exact .inr ((hO.push h2 (r := ⟨e, size, v', n + m, xs ++ news⟩) h3 hB).swap (set_perm rs k _ _ hr))
end
end Go.Proofs.Ytcfpclhoockcfaa
/-
  The kit's Apart.. walks where other memory is held still: the steps.
-/
namespace Go.Proofs.Ytcfpclhoockcfaa
open Go.RowKit Go.PlainAid
set_option linter.unusedVariables false
set_option linter.unusedSimpArgs false
section
variable {α : Type} {enc : α → List Value} {S : Nat} {E L : TypeId} {mk : Int → Int → α} {F : Nat → Prop} {w0 : World}
theorem apart_put1F {W : World} {B K k : Nat} {vs : Nat → Value} {ns : Nat → Nat} {f : Nat → List α} {ex : List Ro} (hS : ∀ x, (enc x).length = 1) (hk : k < K) (X : List α) {g n c1 j : Nat} (hv : vs k = .slice (some ⟨g, 0, none⟩) n c1) (hn : n = ns k)
    (h : OwnsF F w0 W B (rowsF K (rowB enc 1 E vs ns (updF f k X)) ++ ex)) (hj : j < X.length) (m : α) {a : Value} (e : enc m = [a]) : OwnsF F w0 (W.setCell ⟨g, j, none⟩ a) B (rowsF K (rowB enc 1 E vs ns (updF f k (X.set j m))) ++ ex) := by
  have hl : (X.flatMap enc).length = X.length * 1 := enc_len hS X
  have hr := apart_row (enc := enc) (S := 1) (E := E) (ex := ex) (f := f) hk X hv hn
  have h1 := h.store hr (j := j) (by omega) a
  rw [enc_set1 X j m a hS e, rowsF_set _ _ _ hk] at h1
  have e : rowsF K (updR (rowB enc 1 E vs ns (updF f k X)) k ⟨E, 1, .slice (some ⟨g, 0, none⟩) n c1, n, (X.set j m).flatMap enc⟩) = rowsF K (rowB enc 1 E vs ns (updF f k (X.set j m))) := by
    rw [← upd_upd f k X (X.set j m), ← row_upd hk, hv, hn]
  rw [e] at h1
  exact h1
theorem apart_put2F {W : World} {B K k : Nat} {vs : Nat → Value} {ns : Nat → Nat} {f : Nat → List α} {ex : List Ro} (hS : ∀ x, (enc x).length = 2) (hk : k < K) (X : List α) {g n c1 j : Nat} (hv : vs k = .slice (some ⟨g, 0, none⟩) n c1) (hn : n = ns k)
    (h : OwnsF F w0 W B (rowsF K (rowB enc 2 E vs ns (updF f k X)) ++ ex)) (hj : j < X.length) (m : α) {a b : Value} (e : enc m = [a, b]) : OwnsF F w0 ((W.setCell ⟨g, j * 2, none⟩ a).setCell ⟨g, j * 2 + 1, none⟩ b) B (rowsF K (rowB enc 2 E vs ns (updF f k (X.set j m))) ++ ex) := by
  have hl : (X.flatMap enc).length = X.length * 2 := enc_len hS X
  have hr := apart_row (enc := enc) (S := 2) (E := E) (ex := ex) (f := f) hk X hv hn
  have hlen : k < (rowsF K (rowB enc 2 E vs ns (updF f k X)) ++ ex).length := (List.getElem?_eq_some_iff.1 hr).1
  have h1 := h.store hr (j := j * 2) (by omega) a
  have h2 := h1.store (i := k) (by rw [List.getElem?_set_self hlen]) (j := j * 2 + 1) (by rw [List.length_set]; omega) b
  rw [List.set_set, enc_set2 X j m a b hS e, rowsF_set _ _ _ hk] at h2
  have e : rowsF K (updR (rowB enc 2 E vs ns (updF f k X)) k ⟨E, 2, .slice (some ⟨g, 0, none⟩) n c1, n, (X.set j m).flatMap enc⟩) = rowsF K (rowB enc 2 E vs ns (updF f k (X.set j m))) := by
    rw [← upd_upd f k X (X.set j m), ← row_upd hk, hv, hn]
  rw [e] at h2
  exact h2
theorem apart_lastF {W : World} {B m q G n c cL : Nat} {vs : Nat → Value} {ns : Nat → Nat} {r : Nat → Ro} {ex : List Ro} {gv : Value} {A : Option Addr} (hS : ∀ x, (enc x).length = S)
    (hO : OwnsF F w0 W B (rowsF m r ++ lsRow L (some ⟨G, 0, none⟩) m cL vs :: gsRow L gv m r :: ex)) (hP : Pat enc S E mk m vs ns r m 0) (hq : q < m) (hOL : OldOk S E (rowsF m r ++ lsRow L (some ⟨G, 0, none⟩) m cL vs :: gsRow L gv m r :: ex) (vs q) (mkU enc mk q (ns q)))
    (hv : vs q = .slice A n c) (hn : n = ns q) (hA : 0 < n → ∃ g, A = some ⟨g, 0, none⟩) :
    ∃ g' cg g5 c5, gv = .slice (some ⟨g', 0, none⟩) m cg ∧ W.cell? ⟨g', q, none⟩ = some (.slice (some ⟨g5, 0, none⟩) (n + 64) c5) ∧ W.cell? ⟨G, q, none⟩ = some (.slice A n c) ∧ g' < W.heap.size ∧ G < W.heap.size ∧ g5 < W.heap.size ∧
      (∀ i, i < n + 64 → ∀ p u, (enc (mk ((q : Int) + 1) i))[p]? = some u → W.cell? ⟨g5, i * S + p, none⟩ = some u) ∧
      (∀ i, i < n → ∃ g, A = some ⟨g, 0, none⟩ ∧ ∀ p u, (enc (mk ((q : Int) + 1) i))[p]? = some u → W.cell? ⟨g, i * S + p, none⟩ = some u ∧ g < W.heap.size) :=
  apart_last hS hO.own hP hq hOL hv hn hA
theorem ls_someF {W : World} {B K cL : Nat} {AL : Option Addr} {vs : Nat → Value} {r : Nat → Ro} {ex : List Ro} (h : OwnsF F w0 W B (rowsF K r ++ lsRow L AL K cL vs :: ex)) (hK : 0 < K) : ∃ G, AL = some ⟨G, 0, none⟩ := ls_some h.own hK
end
end Go.Proofs.Ytcfpclhoockcfaa
/-
  A copy into a row that the call owns, the rows side by side.
-/
namespace Go.Proofs.Ytcfpclhoockcfaa
set_option maxRecDepth 100000
open Go.RowKit

theorem take_splice {α : Type} (cur cs : List α) (off n : Nat) (h : off + cs.length ≤ n) (hn : n ≤ cur.length) : (cur.take off ++ cs ++ cur.drop (off + cs.length)).take n = splice (cur.take n) off cs := by
  have hA : (cur.take off).length = off := by rw [List.length_take]; omega
  have h1 : (cur.take off ++ (cs ++ cur.drop (off + cs.length))).take n = cur.take off ++ (cs ++ cur.drop (off + cs.length)).take (n - off) := by rw [List.take_append, hA, List.take_of_length_le (by omega)]
  have h2 : (cs ++ cur.drop (off + cs.length)).take (n - off) = cs ++ (cur.drop (off + cs.length)).take (n - off - cs.length) := by rw [List.take_append, List.take_of_length_le (by omega)]
  unfold splice
  rw [List.append_assoc, h1, h2, List.take_take, Nat.min_eq_left (by omega), List.drop_take, Nat.sub_sub]
theorem run_copy_owns {P : Program} {w : World} {B : Nat} {rs : List Ro} {k : Nat} {e elem : TypeId} {n c g off dLen dCap sLen sCap : Nat} {sp : Option Addr} {xs cs : List Value} (dT sT ty : TypeId)
    (hu : P.underlying dT = some (.slice elem)) (hsz : (P.info? elem).map (·.size) = some 1) (hr : rs[k]? = some ⟨e, 1, .slice (some ⟨g, 0, none⟩) n c, n, xs⟩) (hO : Owns w B rs)
    (hn : cs.length = Nat.min sLen dLen) (hsrc : 0 < cs.length → ∃ ad, sp = some ad ∧ ∀ j v, cs[j]? = some v → w.cell? (ad.add j) = some v) (hfit : off + cs.length ≤ n) (h1 : ∀ v ∈ cs, v.oneCell' = true) :
    ∃ w', (Builtin.copy_ #[dT, sT] ty #[.slice (some ⟨g, off, none⟩) dLen dCap, .slice sp sLen sCap]).run P w = .ok (goInt cs.length) w' ∧
      Owns w' B (rs.set k ⟨e, 1, .slice (some ⟨g, 0, none⟩) n c, n, splice xs off cs⟩) ∧ Below B w w' ∧ w.heap.size ≤ w'.heap.size := by
  have hk : k < rs.length := (List.getElem?_eq_some_iff.1 hr).1
  by_cases h0 : cs.length = 0
  · obtain rfl : cs = [] := List.eq_nil_of_length_eq_zero h0
    have hrun := run_copy_none (P := P) w dT sT ty elem (some ⟨g, off, none⟩) sp dLen dCap sLen sCap hu hsz (by simpa using hn.symm)
    refine ⟨w, hrun, ?_, Below.refl _ _, Nat.le_refl _⟩
    have e1 : splice xs off [] = xs := by simp [splice]
    rw [e1]
    have e2 : rs.set k ⟨e, 1, .slice (some ⟨g, 0, none⟩) n c, n, xs⟩ = rs := by
      apply List.ext_getElem?
      intro j
      rw [List.getElem?_set]
      split
      · next h => subst h; first | exact hr.symm | (rw [if_pos hk]; exact hr.symm)
      · rfl
    rw [e2]
    exact hO
  · obtain ⟨ad, rfl, hcell⟩ := hsrc (by omega)
    have hrow := hO.at_ hr
    have hb := hO.base hr
    obtain ⟨hxl, hro⟩ := hrow
    rcases hro with ⟨hv, _⟩ | ⟨g', cap, cur, hv, hbg, hg, hnc, hcm, hcs, htk⟩
    · cases hv
    · injection hv with hv1 _ hv3
      injection hv1 with hv1
      injection hv1 with hv1
      subst hv1 hv3
      simp only [Nat.mul_one] at hxl hcs htk
      have hl : cur.toList.length = c := by simpa using hcs
      have hrun := run_copy_row (P := P) w dT sT ty elem g off dLen dCap ad sLen sCap cur e cs hu hsz hg hn hcell (by omega) h1
      have hgr : w.grownBy (w.setRow g (cur.toList.take off ++ cs ++ cur.toList.drop (off + cs.length)).toArray) (some g) :=
        ⟨rfl, rfl, rfl, by simp [World.setRow], fun k' _ hk' => setRow_other w g k' _ (fun h => hk' (by rw [h]))⟩
      refine ⟨_, hrun, hO.turn hr hgr (r' := ⟨e, 1, .slice (some ⟨g, 0, none⟩) n c, n, splice xs off cs⟩) ⟨?_, .inr ⟨g, c, _, rfl, hbg, setRow_heap w g _ _ e _ hg, hnc, hcm, ?_, ?_⟩⟩ (.inl rfl), below_setRow (Below.refl _ _) hbg _, hgr.size⟩
      · show (splice xs off cs).length = n * 1
        rw [length_splice _ _ _ (by omega)]
        omega
      · simp
        omega
      · show (cur.toList.take off ++ cs ++ cur.toList.drop (off + cs.length)).toArray.toList.take (n * 1) = splice xs off cs
        rw [Nat.mul_one, List.toList_toArray, take_splice _ _ _ _ hfit (by omega), htk]
theorem step_copy_owns {P : Program} {ops : Array Oper} {o : Oper} {a : Act} {w : World} {K : Act → World → Prop} {Q : Exit → Act → World → Prop} {E : Prop} (hgd : o.guard = none) (d s : Operand) (dT sT : TypeId)
    (ho : o.op = .call { callee := .builtin .copy, args := #[d, s], argTypes := #[dT, sT] }) (elem : TypeId) (hu : P.underlying dT = some (.slice elem)) (hsz : (P.info? elem).map (·.size) = some 1)
    (g off dLen dCap sLen sCap : Nat) (sp : Option Addr) (hd : a.eval d = .slice (some ⟨g, off, none⟩) dLen dCap) (hs : a.eval s = .slice sp sLen sCap)
    (B : Nat) (rs : List Ro) (k : Nat) (e : TypeId) (n c : Nat) (xs cs : List Value) (hr : rs[k]? = some ⟨e, 1, .slice (some ⟨g, 0, none⟩) n c, n, xs⟩) (hO : Owns w B rs)
    (hn : cs.length = Nat.min sLen dLen) (hsrc : 0 < cs.length → ∃ ad, sp = some ad ∧ ∀ j v, cs[j]? = some v → w.cell? (ad.add j) = some v) (hfit : off + cs.length ≤ n) (h1 : ∀ v ∈ cs, v.oneCell' = true)
    (h : ∀ w', Owns w' B (rs.set k ⟨e, 1, .slice (some ⟨g, 0, none⟩) n c, n, splice xs off cs⟩) → Below B w w' → w.heap.size ≤ w'.heap.size → K (a.put o.dst (goInt cs.length)) w') :
    if Region.wanted o (yielded ops a.tmps) = true then Oper.wp P o a w K Q else E := by
  have hw : Region.wanted o (yielded ops a.tmps) = true := by simp [Region.wanted, hgd]
  rw [if_pos hw]
  obtain ⟨w', hrun, h2, h3, h4⟩ := run_copy_owns (P := P) (dLen := dLen) (dCap := dCap) (sLen := sLen) (sCap := sCap) dT sT o.type hu hsz hr hO hn hsrc hfit h1
  unfold Oper.wp
  simp [execOp, ho, resolve, invoke, builtin, hd, hs, hrun, Result.andThen]
  exact h w' h2 h3 h4
end Go.Proofs.Ytcfpclhoockcfaa
/-
  The walks of mem's small functions: made, place, plain; a data segment as rows side by side.
-/
namespace Go.Proofs.Ytcfpclhoockcfaa
set_option maxRecDepth 100000
open Go.RowKit

theorem and_place (a : Int) (b : Nat) (hb : b ≤ 31) (h0 : 0 ≤ a) (h1 : a ≤ 4294967295) : bits .and .u32 a (((2 ^ b : Nat) : Int) - 1) = a % ((2 ^ b : Nat) : Int) := by
  obtain ⟨n, rfl⟩ := Int.eq_ofNat_of_zero_le h0
  have hp : 0 < 2 ^ b := Nat.two_pow_pos b
  have h2 : 2 ^ b ≤ 2 ^ 31 := Nat.pow_le_pow_right (by decide) hb
  have e : (((2 ^ b : Nat) : Int) - 1) = ((2 ^ b - 1 : Nat) : Int) := by omega
  rw [e, u32_and_nat n (2 ^ b - 1) (by omega) (by omega), Nat.and_two_pow_sub_one_eq_mod]
  omega
def touchCells (ts : List (Int × Bool)) : List Value := ts.flatMap fun t => [.int .u32 t.1, .bool t.2]
theorem touchCells_snoc (ts : List (Int × Bool)) (t : Int × Bool) : touchCells (ts ++ [t]) = touchCells ts ++ [.int .u32 t.1, .bool t.2] := by simp [touchCells]
/-- a data segment: its struct, its bytes, its log -/
def memRows (g d N c : Nat) (logs : Bool) (tv : Value) (ts : List (Int × Bool)) (xs : List Int) : List Ro :=
  [⟨59, 1, .slice (some ⟨g, 0, none⟩) 3 3, 3, [.slice (some ⟨d, 0, none⟩) N c, .bool logs, tv]⟩,
   ⟨5, 1, .slice (some ⟨d, 0, none⟩) N c, N, u8s xs⟩,
   ⟨136, 2, tv, ts.length, touchCells ts⟩]
theorem made_any (g d N c : Nat) (W : World) (h : W.cell? ⟨g, 0, none⟩ = some (.slice (some ⟨d, 0, none⟩) N c)) (hN : 0 < N) : Calls Try.prog 59 #[.pointer (some ⟨g, 0, none⟩)] W fun e w' => e = .returned (.bool true) ∧ w' = W := by
  have d1 : decide ((0 : Int) < (N : Int)) = true := by simp; omega
  go_enter Try.func59, Try.ntmps59
  go_wp2
  go_ret
  exact ⟨by simp, rfl⟩
theorem made_nil (W : World) : Calls Try.prog 59 #[.pointer none] W fun e w' => e = .returned (.bool false) ∧ w' = W := by
  go_enter Try.func59, Try.ntmps59
  go_wp2
  go_ret
  exact ⟨rfl, rfl⟩
def IsPow (N : Nat) : Prop := ∃ b, b ≤ 31 ∧ N = 2 ^ b
theorem IsPow.bd {N : Nat} (h : IsPow N) : 0 < N ∧ N ≤ 2147483648 := by
  obtain ⟨b, hb, rfl⟩ := h
  have : 2 ^ b ≤ 2 ^ 31 := Nat.pow_le_pow_right (by decide) hb
  exact ⟨Nat.two_pow_pos b, this⟩
theorem place_any (g d N c : Nat) (a : Int) (W : World) (h : W.cell? ⟨g, 0, none⟩ = some (.slice (some ⟨d, 0, none⟩) N c)) (hN : IsPow N) (h0 : 0 ≤ a) (h1 : a ≤ 4294967295) :
    Calls Try.prog 80 #[.pointer (some ⟨g, 0, none⟩), .int .u32 a] W fun e w' => e = .returned (.int .u32 (a % (N : Int))) ∧ w' = W := by
  obtain ⟨hp, h2⟩ := hN.bd
  obtain ⟨b, hb, hNb⟩ := hN
  have ha := and_place a b hb h0 h1
  rw [← hNb] at ha
  have s1 : IntKind.i64.wrap ((N : Int) - 1) = (N : Int) - 1 := IntWalk.i64_in _ (by omega)
  have s2 : ((N : Int) - 1) % 4294967296 = (N : Int) - 1 := by omega
  clear hNb
  go_enter Try.func80, Try.ntmps80
  go_wp2
  go_ret
  exact ⟨by simp, rfl⟩
theorem plain_any (g d N c n : Nat) (logs : Bool) (a : Int) (W : World) (h : W.cell? ⟨g, 0, none⟩ = some (.slice (some ⟨d, 0, none⟩) N c)) (hl : W.cell? ⟨g, 1, none⟩ = some (.bool logs)) (hN : IsPow N) (h0 : 0 ≤ a) (h1 : a ≤ 4294967295) (hn : n ≤ 4294967296) :
    Calls Try.prog 79 #[.pointer (some ⟨g, 0, none⟩), .int .u32 a, .int .i64 n] W fun e w' => e = .returned (.bool (!logs && decide (a % (N : Int) + n ≤ (N : Int)))) ∧ ∃ nq, w' = W.drewN nq := by
  obtain ⟨hp, h2⟩ := hN.bd
  have hP := hide_ (fun k : Nat => place_any g d N c a (W.drewN k) h hN h0 h1)
  obtain ⟨p, hpp⟩ : ∃ p, p = a % (N : Int) := ⟨_, rfl⟩
  rw [← hpp] at hP ⊢
  have p0 : 0 ≤ p := by rw [hpp]; exact Int.emod_nonneg _ (by omega)
  have p1 : p < N := by rw [hpp]; exact Int.emod_lt_of_pos _ (by omega)
  have s1 : IntKind.i64.wrap (p + (n : Int)) = p + (n : Int) := IntWalk.i64_in _ (by omega)
  clear hN hpp
  go_enter Try.func79, Try.ntmps79
  cases logs with
  | true =>
    go_wp2
    go_quiet (fail)
    go_wp2
    go_ret
    exact ⟨by simp, _, rfl⟩
  | false =>
    go_wp2
    go_quiet ((go_at_call 80; exact Calls.quiet_of_same (hP.out _)))
    go_wp2
    go_ret
    exact ⟨by simp, _, rfl⟩
theorem touch_info : (Try.prog.info? 136).map (fun i => (i.zero, i.size, i.bytes)) = some (some (.agg #[.int .u32 0, .bool false]), 2, 8) := by kernel_rfl
/-- the place of the k-th byte from an address on -/
def plc (N : Nat) (a : Int) (k : Nat) : Int := (a + k) % 4294967296 % (N : Int)
theorem plc_bd {N : Nat} (hN : IsPow N) (a : Int) (k : Nat) : 0 ≤ plc N a k ∧ plc N a k < N := by
  have := hN.bd
  unfold plc
  exact ⟨Int.emod_nonneg _ (by omega), Int.emod_lt_of_pos _ (by omega)⟩
def noted (logs wrt : Bool) (ts : List (Int × Bool)) (p : Int) : List (Int × Bool) := if logs && decide (ts.length < 65536) then ts ++ [(p, wrt)] else ts
def notes (N : Nat) (logs wrt : Bool) (a : Int) (ts : List (Int × Bool)) : Nat → List (Int × Bool)
  | 0 => ts
  | k + 1 => noted logs wrt (notes N logs wrt a ts k) (plc N a k)
end Go.Proofs.Ytcfpclhoockcfaa
