/-
  The walk of the statement GateThrough.
-/
import Derived.Test.YtcfpclhoockcfaaM12
import Derived.Test.YtcfpclhoockcfaaM06
namespace Go.Proofs.Ytcfpclhoockcfaa
set_option maxRecDepth 100000
open Go.RowKit Go.Maps

theorem del_inn (D : MD) (n x : Int) (h : Maps.has (D.del (kx n)) (kx x) = true) : Maps.has D (kx x) = true ∧ (D.del (kx n)).atKey (kx x) z0 = D.atKey (kx x) z0 ∧ x ≠ n := by
  by_cases e : x = n
  · subst e
    rw [Maps.has_del_same] at h
    cases h
  · have hk : kx x ≠ kx n := fun h => e (kx_inj h)
    rw [Maps.has_del_other hk] at h
    exact ⟨h, Maps.atKey_del_other hk _, e⟩
theorem delAll_inn : ∀ (ns : List Int) (D : MD) (x : Int), Maps.has (delAll D ns) (kx x) = true → Maps.has D (kx x) = true ∧ (delAll D ns).atKey (kx x) z0 = D.atKey (kx x) z0 ∧ x ∉ ns
  | [], D, x, h => ⟨h, rfl, by simp⟩
  | n :: r, D, x, h => by
    obtain ⟨h1, h2, h3⟩ := delAll_inn r (D.del (kx n)) x h
    obtain ⟨h4, h5, h6⟩ := del_inn D n x h1
    exact ⟨h4, h2.trans h5, by simp [h6, h3]⟩
theorem delAll_has : ∀ (ns : List Int) (D : MD) (x : Int), Maps.has D (kx x) = true → x ∉ ns → Maps.has (delAll D ns) (kx x) = true
  | [], D, x, h, _ => h
  | n :: r, D, x, h, hx => by
    simp only [List.mem_cons, not_or] at hx
    exact delAll_has r (D.del (kx n)) x (by rw [Maps.has_del_other (fun e => hx.1 (kx_inj e))]; exact h) hx.2
theorem WithinP.refl (D : MD) : WithinP D D := fun _ _ h => ⟨h, rfl⟩
theorem WithinP.less (D : MD) (ns : List Int) : WithinP (delAll D ns) D := fun x _ h => ⟨(delAll_inn ns D x h).1, (delAll_inn ns D x h).2.1⟩
theorem WithinP.trans {D1 D2 D3 : MD} (h1 : WithinP D1 D2) (h2 : WithinP D2 D3) : WithinP D1 D3 := fun x hx h => by
  obtain ⟨a, b⟩ := h1 x hx h
  obtain ⟨c, d⟩ := h2 x hx a
  exact ⟨c, b.trans d⟩
end Go.Proofs.Ytcfpclhoockcfaa
/-
  The plain law of the statement GateLess.
-/
namespace Go.Proofs.Ytcfpclhoockcfaa
set_option maxRecDepth 100000
open Go.RowKit Go.Maps

theorem putG_map {D : MD} (hD : Maps.IsMap D) (y a : Int) : Maps.IsMap (putG D y a) := by
  obtain ⟨es, rfl⟩ := hD
  exact ⟨_, rfl⟩
theorem nil_map : Maps.IsMap (.map [] : MD) := ⟨_, rfl⟩
theorem putG_has (D : MD) (hD : Maps.IsMap D) (y a x : Int) : Maps.has (putG D y a) (kx x) = (Maps.has D (kx x) || (y == x)) := by
  unfold putG
  by_cases h : y = x
  · subst h
    rw [Maps.has_put_same hD (k := kx y) (by exact trivial)]
    simp
  · rw [Maps.has_put_other (fun e => h (kx_inj e).symm)]
    have : (y == x) = false := by simpa using h
    rw [this, Bool.or_false]
theorem putAll_has : ∀ (l : List (Int × Int)) (D : MD) (_ : Maps.IsMap D) (x : Int), Maps.has (putAll D l) (kx x) = (Maps.has D (kx x) || hasNum l x)
  | [], D, _, x => by simp [putAll, hasNum]
  | (y, a) :: r, D, hD, x => by
    have h := putAll_has r (putG D y a) (putG_map hD y a) x
    unfold putAll at h ⊢
    rw [List.foldl_cons, h, putG_has D hD]
    unfold hasNum
    rw [List.any_cons, Bool.or_assoc]
theorem putAll_other : ∀ (l : List (Int × Int)) (D : MD) (x : Int), (∀ t ∈ l, t.1 ≠ x) → (putAll D l).atKey (kx x) z0 = D.atKey (kx x) z0
  | [], _, _, _ => rfl
  | (y, a) :: r, D, x, h => by
    have h1 := putAll_other r (putG D y a) x (fun t ht => h t (by simp [ht]))
    unfold putAll at h1 ⊢
    rw [List.foldl_cons, h1]
    exact Maps.atKey_put_other (fun e => h (y, a) (by simp) (kx_inj e).symm) _ _
theorem putAll_at : ∀ (l : List (Int × Int)) (D : MD) (_ : Maps.IsMap D), l.Pairwise (fun s t => s.1 ≠ t.1) → ∀ t ∈ l, (putAll D l).atKey (kx t.1) z0 = .lit (.int .i64 t.2)
  | [], _, _, _, _, h => by cases h
  | (y, a) :: r, D, hD, hp, t, ht => by
    obtain ⟨p1, p2⟩ := List.pairwise_cons.1 hp
    rcases List.mem_cons.1 ht with rfl | ht
    · have h1 := putAll_other r (putG D y a) y (fun s hs => Ne.symm (p1 s hs))
      show (putAll (putG D y a) r).atKey (kx y) z0 = _
      rw [h1]
      exact Maps.atKey_put_same hD (k := kx y) (by exact trivial) _ _
    · exact putAll_at r (putG D y a) (putG_map hD y a) p2 t ht
theorem hasNum_iff (l : List (Int × Int)) (x : Int) : hasNum l x = true ↔ ∃ t ∈ l, t.1 = x := by
  unfold hasNum
  rw [List.any_eq_true]
  simp
theorem has_nil (x : Int) : Maps.has (.map [] : MD) (kx x) = false := rfl
/-- the grants in another order: the same gate -/
theorem perm_within {l l' : List (Int × Int)} (hp : l.Perm l') (h : SomeOk l) : WithinP (putAll (.map []) l) (putAll (.map []) l') := by
  intro x _ hx
  rw [putAll_has _ _ nil_map, has_nil, Bool.false_or, hasNum_iff] at hx
  obtain ⟨t, ht, rfl⟩ := hx
  refine ⟨?_, ?_⟩
  · rw [putAll_has _ _ nil_map, has_nil, Bool.false_or, hasNum_iff]
    exact ⟨t, hp.mem_iff.1 ht, rfl⟩
  · rw [putAll_at l _ nil_map h.once t ht, putAll_at l' _ nil_map ((hp.pairwise_iff (fun {a b} hab => Ne.symm hab)).1 h.once) t (hp.mem_iff.1 ht)]
theorem SomeOk.perm {l l' : List (Int × Int)} (hp : l.Perm l') (h : SomeOk l) : SomeOk l' :=
  ⟨by rw [← hp.length_eq]; exact h.few, (hp.pairwise_iff (fun {a b} hab => Ne.symm hab)).1 h.once, fun t ht => h.ok t (hp.mem_iff.2 ht)⟩
/-- two lists, each rising, with the same members, are the same -/
theorem rising_eq : ∀ {l l' : List (Int × Int)}, (l.Pairwise fun s t => s.1 < t.1) → (l'.Pairwise fun s t => s.1 < t.1) → (∀ t, t ∈ l ↔ t ∈ l') → l = l'
  | [], [], _, _, _ => rfl
  | [], b :: r', _, _, h => by have := (h b).2 (by simp); cases this
  | a :: r, [], _, _, h => by have := (h a).1 (by simp); cases this
  | a :: r, b :: r', h1, h2, h => by
    obtain ⟨p1, p2⟩ := List.pairwise_cons.1 h1
    obtain ⟨q1, q2⟩ := List.pairwise_cons.1 h2
    have hab : a = b := by
      rcases List.mem_cons.1 ((h a).1 (by simp)) with e | e
      · exact e
      · rcases List.mem_cons.1 ((h b).2 (by simp)) with e2 | e2
        · exact e2.symm
        · have := p1 b e2
          have := q1 a e
          omega
    subst hab
    congr 1
    refine rising_eq p2 q2 fun t => ⟨fun ht => ?_, fun ht => ?_⟩
    · rcases List.mem_cons.1 ((h t).1 (by simp [ht])) with e | e
      · subst e; have := p1 t ht; omega
      · exact e
    · rcases List.mem_cons.1 ((h t).2 (by simp [ht])) with e | e
      · subst e; have := q1 t ht; omega
      · exact e
theorem Told.mem_of {D D' : MD} {l l' : List (Int × Int)} (h : Told D l) (h' : Told D' l') (hw : WithinP D D') {t : Int × Int} (ht : t ∈ l) : t ∈ l' := by
  obtain ⟨w1, _, hh, hat⟩ := h.ok t ht
  obtain ⟨i1, i2⟩ := hw t.1 w1 hh
  obtain ⟨a, ha⟩ := h'.all t.1 w1 i1
  have h3 := (h'.ok _ ha).2.2.2
  simp only at h3
  rw [← i2, hat] at h3
  have : t.2 = a := congrArg (fun d : MD => match d with | .lit (.int _ a) => a | _ => 0) h3
  obtain ⟨x, b⟩ := t
  simp only at this ha
  rw [this]
  exact ha
theorem Told.eq_of {D D' : MD} {l l' : List (Int × Int)} (h : Told D l) (h' : Told D' l') (hw : WithinP D D') (hw' : WithinP D' D) : l = l' :=
  rising_eq h.sorted h'.sorted fun _ => ⟨fun ht => h.mem_of h' hw ht, fun ht => h'.mem_of h hw' ht⟩
/-- what is told of a gate made of a list is as long as the list -/
theorem Told.len {l l' : List (Int × Int)} (h : Told (putAll (.map []) l) l') (hok : SomeOk l) : l'.length = l.length := by
  have hp : l'.Perm l := by
    rw [List.perm_ext_iff_of_nodup]
    · intro t
      constructor
      · intro ht
        obtain ⟨_, _, hh, hat⟩ := h.ok t ht
        rw [putAll_has _ _ nil_map, has_nil, Bool.false_or, hasNum_iff] at hh
        obtain ⟨s, hs, hse⟩ := hh
        rw [← hse, putAll_at l _ nil_map hok.once s hs] at hat
        have : s.2 = t.2 := congrArg (fun d : MD => match d with | .lit (.int _ a) => a | _ => 0) hat
        obtain ⟨x, b⟩ := t
        obtain ⟨y, c⟩ := s
        simp only at hse this
        subst hse this
        exact hs
      · intro ht
        obtain ⟨⟨t0, t1⟩, t2, t3⟩ := hok.ok t ht
        have hh : Maps.has (putAll (.map []) l) (kx t.1) = true := by
          rw [putAll_has _ _ nil_map, has_nil, Bool.false_or, hasNum_iff]
          exact ⟨t, ht, rfl⟩
        obtain ⟨a, ha⟩ := h.all t.1 (wf_u32_of t0 (by omega)) hh
        have h3 := (h.ok _ ha).2.2.2
        simp only at h3
        rw [putAll_at l _ nil_map hok.once t ht] at h3
        have : t.2 = a := congrArg (fun d : MD => match d with | .lit (.int _ a) => a | _ => 0) h3
        obtain ⟨x, b⟩ := t
        simp only at this ha
        rw [this]
        exact ha
    · exact h.sorted.imp (fun {a b} hab e => by subst e; omega)
    · exact hok.once.imp (fun {a b} hab e => hab (by rw [e]))
  exact hp.length_eq
/-- what Less leaves -/
theorem less_at {l : List (Int × Int)} (hok : SomeOk l) (os : List Int) {t : Int × Int} (ht : t ∈ l) : Maps.has (delAll (putAll (.map []) l) os) (kx t.1) = !os.contains t.1 ∧ (os.contains t.1 = false → (delAll (putAll (.map []) l) os).atKey (kx t.1) z0 = .lit (.int .i64 t.2)) ∧
    (os.contains t.1 = true → ¬ WithinP (putAll (.map []) l) (delAll (putAll (.map []) l) os)) := by
  have hh : Maps.has (putAll (.map []) l) (kx t.1) = true := by
    rw [putAll_has _ _ nil_map, has_nil, Bool.false_or, hasNum_iff]
    exact ⟨t, ht, rfl⟩
  obtain ⟨⟨t0, t1⟩, _⟩ := hok.ok t ht
  cases hc : os.contains t.1 with
  | false =>
    have hn : t.1 ∉ os := fun h => by rw [List.contains_iff_mem.2 h] at hc; cases hc
    have h2 := delAll_has os _ t.1 hh hn
    refine ⟨by rw [h2]; rfl, fun _ => ?_, (fun h => by cases h)⟩
    rw [(delAll_inn os _ t.1 h2).2.1, putAll_at l _ nil_map hok.once t ht]
  | true =>
    have hm : t.1 ∈ os := List.contains_iff_mem.1 hc
    have h2 : Maps.has (delAll (putAll (.map []) l) os) (kx t.1) = false := by
      cases h3 : Maps.has (delAll (putAll (.map []) l) os) (kx t.1) with
      | false => rfl
      | true => exact absurd hm (delAll_inn os _ t.1 h3).2.2
    refine ⟨by rw [h2]; rfl, (fun h => by cases h), fun _ hw => ?_⟩
    have := (hw t.1 (wf_u32_of t0 (by omega)) hh).1
    rw [h2] at this
    cases this
end Go.Proofs.Ytcfpclhoockcfaa
/-
  The plain law of the statement GatePlays: gates and lists of grants.
-/
namespace Go.Proofs.Ytcfpclhoockcfaa
set_option maxRecDepth 100000
open Go.RowKit Go.Maps
/-- grants that may be: few, each number once -/
structure LOk (l : List (Int × Int)) : Prop where
  few : l.length ≤ 64
  once : l.Pairwise fun s t => s.1 ≠ t.1
  ok : ∀ t ∈ l, (0 ≤ t.1 ∧ t.1 ≤ 2147483647) ∧ 0 ≤ t.2 ∧ t.2 ≤ 15
/-- a gate's map holds a list -/
structure Is (D : MD) (l : List (Int × Int)) : Prop where
  has : ∀ x, Maps.has D (kx x) = hasNum l x
  at_ : ∀ t ∈ l, D.atKey (kx t.1) z0 = .lit (.int .i64 t.2)
theorem newFrom_some : ∀ (l : List (Int × Int)) (D D' : MD), Maps.IsMap D → (∀ t ∈ l, 0 ≤ t.1) → newFrom D l = some D' →
    (∀ t ∈ l, Maps.has D (kx t.1) = false) ∧ l.Pairwise (fun s t => s.1 ≠ t.1) ∧ (∀ t ∈ l, (0 ≤ t.1 ∧ t.1 ≤ 2147483647) ∧ 0 ≤ t.2 ∧ t.2 ≤ 15) ∧ D' = putAll D l
  | [], D, D', _, _, h => ⟨by simp, List.Pairwise.nil, by simp, by simpa [newFrom, putAll] using h.symm⟩
  | (x, a) :: r, D, D', hD, h0, h => by
    by_cases hb : badG D x a = true
    · rw [newFrom, if_pos hb] at h
      cases h
    · rw [newFrom, if_neg hb] at h
      obtain ⟨h1, h2, h3, h4⟩ := newFrom_some r (putG D x a) D' (putG_map hD x a) (fun t ht => h0 t (List.mem_cons_of_mem _ ht)) h
      have hb' : badG D x a = false := by simpa using hb
      simp only [badG, Bool.or_eq_false_iff, decide_eq_false_iff_not] at hb'
      obtain ⟨⟨⟨b1, b2⟩, b3⟩, b4⟩ := hb'
      have hx : ∀ t ∈ r, Maps.has D (kx t.1) = false ∧ x ≠ t.1 := fun t ht => by
        have := h1 t ht
        rw [putG_has D hD] at this
        simp only [Bool.or_eq_false_iff, beq_eq_false_iff_ne] at this
        exact this
      refine ⟨fun t ht => ?_, List.pairwise_cons.2 ⟨fun t ht => (hx t ht).2, h2⟩, fun t ht => ?_, h4⟩
      · rcases List.mem_cons.1 ht with rfl | ht
        · exact b1
        · exact (hx t ht).1
      · rcases List.mem_cons.1 ht with rfl | ht
        · have := h0 (x, a) (by simp)
          exact ⟨⟨this, by simp only; omega⟩, by simp only; omega, by simp only; omega⟩
        · exact h3 t ht
theorem newD_some {l : List (Int × Int)} {D : MD} (h0 : ∀ t ∈ l, 0 ≤ t.1) (h : newD l = some D) : LOk l ∧ Is D l := by
  unfold newD at h
  by_cases h64 : 64 < l.length
  · rw [if_pos h64] at h; cases h
  · rw [if_neg h64] at h
    obtain ⟨_, h2, h3, rfl⟩ := newFrom_some l _ D nil_map h0 h
    refine ⟨⟨by omega, h2, h3⟩, fun x => by rw [putAll_has l _ nil_map, has_nil, Bool.false_or], putAll_at l _ nil_map h2⟩
theorem newD_none {l : List (Int × Int)} (h : newD l = none) : ¬ LOk l := fun hl => by
  unfold newD at h
  have := hl.few
  rw [if_neg (by omega), newFrom_ok l _ (fun t _ => has_nil _) hl.once hl.ok] at h
  cases h
/-- what the document finds of a number -/
def findN (l : List (Int × Int)) (x : Int) : Int × Bool :=
  match l.find? (fun t => t.1 == x) with
  | some t => (t.2, true)
  | none => (0, false)
theorem findN_none {l : List (Int × Int)} {x : Int} (h : hasNum l x = false) : findN l x = (0, false) := by
  have : l.find? (fun t => t.1 == x) = none := by
    rw [List.find?_eq_none]
    intro t ht
    have := hasNum_false h t ht
    simpa using this
  rw [findN, this]
theorem findN_mem {l : List (Int × Int)} (hp : l.Pairwise fun s t => s.1 ≠ t.1) {t : Int × Int} (ht : t ∈ l) : findN l t.1 = (t.2, true) := by
  induction l with
  | nil => cases ht
  | cons s r ih =>
    obtain ⟨p1, p2⟩ := List.pairwise_cons.1 hp
    rcases List.mem_cons.1 ht with rfl | ht
    · simp [findN]
    · have h1 := ih p2 ht
      have : (s.1 == t.1) = false := by simpa using p1 t ht
      unfold findN at h1 ⊢
      rw [List.find?_cons, this]
      exact h1
theorem hasNum_true {l : List (Int × Int)} {x : Int} (h : hasNum l x = true) : ∃ a, (x, a) ∈ l := by
  obtain ⟨t, ht, rfl⟩ := (hasNum_iff l x).1 h
  exact ⟨t.2, ht⟩
theorem Is.find {D : MD} {l : List (Int × Int)} (h : Is D l) (hl : LOk l) {x c : Int} (hc : D.atKey (kx x) z0 = .lit (.int .i64 c)) : findN l x = (c, Maps.has D (kx x)) := by
  by_cases hn : hasNum l x = true
  · obtain ⟨a, ha⟩ := hasNum_true hn
    have h1 := findN_mem hl.once ha
    have h2 := h.at_ _ ha
    simp only at h1 h2
    rw [h2] at hc
    have : a = c := by injection hc with hc; injection hc
    subst this
    rw [h1, h.has, hn]
  · have hn' : hasNum l x = false := by simpa using hn
    have h3 := h.has x
    rw [hn'] at h3
    rw [findN_none hn', h3]
    rw [atKey_of_not_has h3 z0, z0] at hc
    injection hc with hc
    injection hc with _ hc
    rw [hc]
theorem Is.told {D : MD} {l l' la : List (Int × Int)} (h : Is D l) (hl : LOk l) (ht : Told D la) (hp : l'.Perm l) (hs : l'.Pairwise fun s t => s.1 ≤ t.1) : la = l' := by
  refine rising_eq ht.sorted ?_ (fun t => ⟨fun hm => ?_, fun hm => ?_⟩)
  · have hno : l'.Pairwise fun s t => s.1 ≠ t.1 := (hp.pairwise_iff (fun {a b} hab => Ne.symm hab)).2 hl.once
    rw [List.pairwise_iff_getElem] at hno hs ⊢
    intro i j hi hj hij
    have h1 := hno i j hi hj hij
    have h2 := hs i j hi hj hij
    omega
  · obtain ⟨_, _, h3, h4⟩ := ht.ok t hm
    rw [h.has] at h3
    obtain ⟨a, ha⟩ := hasNum_true h3
    have h5 := h.at_ _ ha
    simp only at h5
    rw [h5] at h4
    have : a = t.2 := by injection h4 with h4; injection h4
    subst this
    exact hp.mem_iff.2 ha
  · have hm' := hp.mem_iff.1 hm
    obtain ⟨⟨x0, x1⟩, a0, a1⟩ := hl.ok t hm'
    obtain ⟨a, ha⟩ := ht.all t.1 (wf_u32_of x0 (by omega)) (by rw [h.has]; exact (hasNum_iff l t.1).2 ⟨t, hm', rfl⟩)
    obtain ⟨_, _, _, h4⟩ := ht.ok _ ha
    have h5 := h.at_ t hm'
    simp only at h4
    rw [h5] at h4
    have : t.2 = a := by injection h4 with h4; injection h4
    subst this
    exact ha
/-- what is left without these numbers -/
def lessL (l : List (Int × Int)) (os : List Int) : List (Int × Int) := l.filter fun t => !os.contains t.1
theorem LOk.less {l : List (Int × Int)} (h : LOk l) (os : List Int) : LOk (lessL l os) :=
  ⟨Nat.le_trans (List.length_filter_le _ _) h.few, h.once.filter _, fun t ht => h.ok t (List.mem_filter.1 ht).1⟩
theorem Is.less {D : MD} {l : List (Int × Int)} (h : Is D l) (os : List Int) : Is (delAll D os) (lessL l os) := by
  refine ⟨fun x => ?_, fun t ht => ?_⟩
  · rw [Bool.eq_iff_iff]
    constructor
    · intro hh
      obtain ⟨h1, _, h3⟩ := delAll_inn os D x hh
      rw [h.has] at h1
      obtain ⟨a, ha⟩ := hasNum_true h1
      exact (hasNum_iff _ _).2 ⟨_, List.mem_filter.2 ⟨ha, by simpa using h3⟩, rfl⟩
    · intro hh
      obtain ⟨t, ht, rfl⟩ := (hasNum_iff _ _).1 hh
      obtain ⟨h1, h2⟩ := List.mem_filter.1 ht
      exact delAll_has os D t.1 (by rw [h.has]; exact (hasNum_iff _ _).2 ⟨t, h1, rfl⟩) (by simpa using h2)
  · obtain ⟨h1, h2⟩ := List.mem_filter.1 ht
    have hh := delAll_has os D t.1 (by rw [h.has]; exact (hasNum_iff _ _).2 ⟨t, h1, rfl⟩) (by simpa using h2)
    rw [(delAll_inn os D t.1 hh).2.1]
    exact h.at_ t h1
/-- does the second list grant all that the first one does? -/
def withinL (a b : List (Int × Int)) : Bool := a.all fun t => decide (findN b t.1 = (t.2, true))
theorem within_iff {D1 D2 : MD} {a b : List (Int × Int)} (h1 : Is D1 a) (h2 : Is D2 b) (ha : LOk a) (hb : LOk b) : WithinP D1 D2 ↔ withinL a b = true := by
  unfold withinL
  rw [List.all_eq_true]
  constructor
  · intro h t ht
    obtain ⟨⟨x0, x1⟩, _⟩ := ha.ok t ht
    obtain ⟨i1, i2⟩ := h t.1 (wf_u32_of x0 (by omega)) (by rw [h1.has]; exact (hasNum_iff _ _).2 ⟨t, ht, rfl⟩)
    rw [h1.at_ t ht] at i2
    rw [decide_eq_true_eq, h2.find hb i2.symm, i1]
  · intro h x hx hh
    rw [h1.has] at hh
    obtain ⟨c, hc⟩ := hasNum_true hh
    have h3 := h _ hc
    rw [decide_eq_true_eq] at h3
    simp only at h3
    have hn : hasNum b x = true := by
      by_cases hn : hasNum b x = true
      · exact hn
      · rw [findN_none (by simpa using hn)] at h3
        cases h3
    obtain ⟨d, hd⟩ := hasNum_true hn
    have h4 := findN_mem hb.once hd
    simp only at h4
    rw [h3] at h4
    have e : c = d := by injection h4
    subst e
    exact ⟨by rw [h2.has]; exact hn, by rw [h1.at_ _ hc, h2.at_ _ hd]⟩
end Go.Proofs.Ytcfpclhoockcfaa
/-
  The walk of mem's each of a segment whose log is off, once for each function that it is called with (written by gen_still.py).
-/
namespace Go.Proofs.Ytcfpclhoockcfaa
open Go.RowKit
set_option maxRecDepth 100000 in
set_option maxHeartbeats 1000000 in
theorem stays_load (g d N c n p1 p2 : Nat) (wrt : Bool) (a : Int) (Pk : Nat → World → Prop) (W : World) (h0 : Pk 0 W) (hN : IsPow N) (hn : n ≤ 4294967296)
    (hc : ∀ k W1, Pk k W1 → W1.cell? ⟨g, 0, none⟩ = some (.slice (some ⟨d, 0, none⟩) N c) ∧ W1.cell? ⟨g, 1, none⟩ = some (.bool false))
    (hdo : ∀ k, k < n → ∀ W1, Pk k W1 → Calls Try.prog 78 #[.int .i64 k, .int .u32 (plc N a k), .pointer (some ⟨p1, 0, none⟩), .pointer (some ⟨p2, 0, none⟩)] W1 fun e W' => e = .returned (.tuple #[]) ∧ Pk (k + 1) W') :
    Calls Try.prog 77 #[.pointer (some ⟨g, 0, none⟩), .int .u32 a, .int .i64 n, .bool wrt, .func (.func 78) #[] #[.pointer (some ⟨p1, 0, none⟩), .pointer (some ⟨p2, 0, none⟩)]] W fun e W' => e = .returned (.tuple #[]) ∧ Pk n W' := by
  have HDO := hide_ hdo
  have HN := hide_ hN
  have HC := hide_ hc
  have HP0 := hide_ h0
  clear hdo hN hc h0
  go_enter Try.func77, Try.ntmps77
  go_wp2
  go_loopw [13] (fun i wr => ∃ k : Nat, k ≤ n ∧ i = .int .i64 k ∧ Hid (Pk k wr)) (fun i _ => n - (intOf i).toNat)
  case atStart => exact ⟨0, Nat.zero_le _, rfl, HP0⟩
  case round =>
    clear HP0
    obtain ⟨k, hk, rfl, hO⟩ := hrel
    by_cases hlt : k < n
    · obtain ⟨c0, c1⟩ := HC.out k wr hO.out
      have hP := hide_ (place_any g d N c ((a + k) % 4294967296) wr c0 HN.out (by omega) (by omega))
      have hdo := HDO.out k hlt wr hO.out
      obtain ⟨p, hp⟩ : ∃ p, p = plc N a k := ⟨_, rfl⟩
      rw [show (a + (k : Int)) % 4294967296 % (N : Int) = plc N a k from rfl, ← hp] at hP
      rw [← hp] at hdo
      have HD := hide_ hdo
      clear hdo hp
      go_wp2_with (first
        | (go_at_call 80; refine (hP.out).mono ?_; rintro e w' ⟨rfl, rfl⟩)
        | (go_at_call 78; refine (HD.out).mono ?_; rintro e w2 ⟨rfl, hO2⟩))
      have HO2 := hide_ hO2
      clear hO2
      go_roundw
      case rel => exact ⟨k + 1, by omega, by go_num, HO2⟩
      case measure => simp [intOf]; omega
    · obtain rfl : k = n := by omega
      go_wp2
      go_end0
      exact ⟨rfl, hO.out⟩
set_option maxRecDepth 100000 in
set_option maxHeartbeats 1000000 in
theorem stays_write (g d N c n p1 p2 : Nat) (wrt : Bool) (a : Int) (Pk : Nat → World → Prop) (W : World) (h0 : Pk 0 W) (hN : IsPow N) (hn : n ≤ 4294967296)
    (hc : ∀ k W1, Pk k W1 → W1.cell? ⟨g, 0, none⟩ = some (.slice (some ⟨d, 0, none⟩) N c) ∧ W1.cell? ⟨g, 1, none⟩ = some (.bool false))
    (hdo : ∀ k, k < n → ∀ W1, Pk k W1 → Calls Try.prog 81 #[.int .i64 k, .int .u32 (plc N a k), .pointer (some ⟨p1, 0, none⟩), .pointer (some ⟨p2, 0, none⟩)] W1 fun e W' => e = .returned (.tuple #[]) ∧ Pk (k + 1) W') :
    Calls Try.prog 77 #[.pointer (some ⟨g, 0, none⟩), .int .u32 a, .int .i64 n, .bool wrt, .func (.func 81) #[] #[.pointer (some ⟨p1, 0, none⟩), .pointer (some ⟨p2, 0, none⟩)]] W fun e W' => e = .returned (.tuple #[]) ∧ Pk n W' := by
  have HDO := hide_ hdo
  have HN := hide_ hN
  have HC := hide_ hc
  have HP0 := hide_ h0
  clear hdo hN hc h0
  go_enter Try.func77, Try.ntmps77
  go_wp2
  go_loopw [13] (fun i wr => ∃ k : Nat, k ≤ n ∧ i = .int .i64 k ∧ Hid (Pk k wr)) (fun i _ => n - (intOf i).toNat)
  case atStart => exact ⟨0, Nat.zero_le _, rfl, HP0⟩
  case round =>
    clear HP0
    obtain ⟨k, hk, rfl, hO⟩ := hrel
    by_cases hlt : k < n
    · obtain ⟨c0, c1⟩ := HC.out k wr hO.out
      have hP := hide_ (place_any g d N c ((a + k) % 4294967296) wr c0 HN.out (by omega) (by omega))
      have hdo := HDO.out k hlt wr hO.out
      obtain ⟨p, hp⟩ : ∃ p, p = plc N a k := ⟨_, rfl⟩
      rw [show (a + (k : Int)) % 4294967296 % (N : Int) = plc N a k from rfl, ← hp] at hP
      rw [← hp] at hdo
      have HD := hide_ hdo
      clear hdo hp
      go_wp2_with (first
        | (go_at_call 80; refine (hP.out).mono ?_; rintro e w' ⟨rfl, rfl⟩)
        | (go_at_call 81; refine (HD.out).mono ?_; rintro e w2 ⟨rfl, hO2⟩))
      have HO2 := hide_ hO2
      clear hO2
      go_roundw
      case rel => exact ⟨k + 1, by omega, by go_num, HO2⟩
      case measure => simp [intOf]; omega
    · obtain rfl : k = n := by omega
      go_wp2
      go_end0
      exact ⟨rfl, hO.out⟩
end Go.Proofs.Ytcfpclhoockcfaa
