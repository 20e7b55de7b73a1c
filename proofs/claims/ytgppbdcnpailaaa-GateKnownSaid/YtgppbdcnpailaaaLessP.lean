/-
  The plain law of the statement GateLess.
-/
import Derived.Test.YtgppbdcnpailaaaGranted
import Derived.Test.YtgppbdcnpailaaaThrough
namespace Go.Proofs.Ytgppbdcnpailaaa
open Go.RowKit Go.Maps

theorem putG_map {D : MD} (hD : Maps.IsMap D) (y a : Int) : Maps.IsMap (putG D y a) := by
  obtain ⟨es, rfl⟩ := hD
  exact ⟨_, rfl⟩
theorem nil_map : Maps.IsMap (.map [] : MD) := ⟨_, rfl⟩
theorem putG_has (D : MD) (hD : Maps.IsMap D) (y a x : Int) : Maps.has (putG D y a) (kx x) = (Maps.has D (kx x) || (y == x)) := by
  unfold putG
  by_cases h : y = x
  · subst h
    rw [Maps.has_put_same hD (k := kx y) (by exact trivial)]
    simp
  · rw [Maps.has_put_other (fun e => h (kx_inj e).symm)]
    have : (y == x) = false := by simpa using h
    rw [this, Bool.or_false]
theorem putAll_has : ∀ (l : List (Int × Int)) (D : MD) (_ : Maps.IsMap D) (x : Int), Maps.has (putAll D l) (kx x) = (Maps.has D (kx x) || hasNum l x)
  | [], D, _, x => by simp [putAll, hasNum]
  | (y, a) :: r, D, hD, x => by
    have h := putAll_has r (putG D y a) (putG_map hD y a) x
    unfold putAll at h ⊢
    rw [List.foldl_cons, h, putG_has D hD]
    unfold hasNum
    rw [List.any_cons, Bool.or_assoc]
theorem putAll_other : ∀ (l : List (Int × Int)) (D : MD) (x : Int), (∀ t ∈ l, t.1 ≠ x) → (putAll D l).atKey (kx x) z0 = D.atKey (kx x) z0
  | [], _, _, _ => rfl
  | (y, a) :: r, D, x, h => by
    have h1 := putAll_other r (putG D y a) x (fun t ht => h t (by simp [ht]))
    unfold putAll at h1 ⊢
    rw [List.foldl_cons, h1]
    exact Maps.atKey_put_other (fun e => h (y, a) (by simp) (kx_inj e).symm) _ _
theorem putAll_at : ∀ (l : List (Int × Int)) (D : MD) (_ : Maps.IsMap D), l.Pairwise (fun s t => s.1 ≠ t.1) → ∀ t ∈ l, (putAll D l).atKey (kx t.1) z0 = .lit (.int .i64 t.2)
  | [], _, _, _, _, h => by cases h
  | (y, a) :: r, D, hD, hp, t, ht => by
    obtain ⟨p1, p2⟩ := List.pairwise_cons.1 hp
    rcases List.mem_cons.1 ht with rfl | ht
    · have h1 := putAll_other r (putG D y a) y (fun s hs => Ne.symm (p1 s hs))
      show (putAll (putG D y a) r).atKey (kx y) z0 = _
      rw [h1]
      exact Maps.atKey_put_same hD (k := kx y) (by exact trivial) _ _
    · exact putAll_at r (putG D y a) (putG_map hD y a) p2 t ht
theorem hasNum_iff (l : List (Int × Int)) (x : Int) : hasNum l x = true ↔ ∃ t ∈ l, t.1 = x := by
  unfold hasNum
  rw [List.any_eq_true]
  simp
theorem has_nil (x : Int) : Maps.has (.map [] : MD) (kx x) = false := rfl
/-- the grants in another order: the same gate -/
theorem perm_within {l l' : List (Int × Int)} (hp : l.Perm l') (h : SomeOk l) : WithinP (putAll (.map []) l) (putAll (.map []) l') := by
  intro x _ hx
  rw [putAll_has _ _ nil_map, has_nil, Bool.false_or, hasNum_iff] at hx
  obtain ⟨t, ht, rfl⟩ := hx
  refine ⟨?_, ?_⟩
  · rw [putAll_has _ _ nil_map, has_nil, Bool.false_or, hasNum_iff]
    exact ⟨t, hp.mem_iff.1 ht, rfl⟩
  · rw [putAll_at l _ nil_map h.once t ht, putAll_at l' _ nil_map ((hp.pairwise_iff (fun {a b} hab => Ne.symm hab)).1 h.once) t (hp.mem_iff.1 ht)]
theorem SomeOk.perm {l l' : List (Int × Int)} (hp : l.Perm l') (h : SomeOk l) : SomeOk l' :=
  ⟨by rw [← hp.length_eq]; exact h.few, (hp.pairwise_iff (fun {a b} hab => Ne.symm hab)).1 h.once, fun t ht => h.ok t (hp.mem_iff.2 ht)⟩
/-- two lists, each rising, with the same members, are the same -/
theorem rising_eq : ∀ {l l' : List (Int × Int)}, (l.Pairwise fun s t => s.1 < t.1) → (l'.Pairwise fun s t => s.1 < t.1) → (∀ t, t ∈ l ↔ t ∈ l') → l = l'
  | [], [], _, _, _ => rfl
  | [], b :: r', _, _, h => by have := (h b).2 (by simp); cases this
  | a :: r, [], _, _, h => by have := (h a).1 (by simp); cases this
  | a :: r, b :: r', h1, h2, h => by
    obtain ⟨p1, p2⟩ := List.pairwise_cons.1 h1
    obtain ⟨q1, q2⟩ := List.pairwise_cons.1 h2
    have hab : a = b := by
      rcases List.mem_cons.1 ((h a).1 (by simp)) with e | e
      · exact e
      · rcases List.mem_cons.1 ((h b).2 (by simp)) with e2 | e2
        · exact e2.symm
        · have := p1 b e2
          have := q1 a e
          omega
    subst hab
    congr 1
    refine rising_eq p2 q2 fun t => ⟨fun ht => ?_, fun ht => ?_⟩
    · rcases List.mem_cons.1 ((h t).1 (by simp [ht])) with e | e
      · subst e; have := p1 t ht; omega
      · exact e
    · rcases List.mem_cons.1 ((h t).2 (by simp [ht])) with e | e
      · subst e; have := q1 t ht; omega
      · exact e
theorem Told.mem_of {D D' : MD} {l l' : List (Int × Int)} (h : Told D l) (h' : Told D' l') (hw : WithinP D D') {t : Int × Int} (ht : t ∈ l) : t ∈ l' := by
  obtain ⟨w1, _, hh, hat⟩ := h.ok t ht
  obtain ⟨i1, i2⟩ := hw t.1 w1 hh
  obtain ⟨a, ha⟩ := h'.all t.1 w1 i1
  have h3 := (h'.ok _ ha).2.2.2
  simp only at h3
  rw [← i2, hat] at h3
  have : t.2 = a := congrArg (fun d : MD => match d with | .lit (.int _ a) => a | _ => 0) h3
  obtain ⟨x, b⟩ := t
  simp only at this ha
  rw [this]
  exact ha
theorem Told.eq_of {D D' : MD} {l l' : List (Int × Int)} (h : Told D l) (h' : Told D' l') (hw : WithinP D D') (hw' : WithinP D' D) : l = l' :=
  rising_eq h.sorted h'.sorted fun _ => ⟨fun ht => h.mem_of h' hw ht, fun ht => h'.mem_of h hw' ht⟩
/-- what is told of a gate made of a list is as long as the list -/
theorem Told.len {l l' : List (Int × Int)} (h : Told (putAll (.map []) l) l') (hok : SomeOk l) : l'.length = l.length := by
  have hp : l'.Perm l := by
    rw [List.perm_ext_iff_of_nodup]
    · intro t
      constructor
      · intro ht
        obtain ⟨_, _, hh, hat⟩ := h.ok t ht
        rw [putAll_has _ _ nil_map, has_nil, Bool.false_or, hasNum_iff] at hh
        obtain ⟨s, hs, hse⟩ := hh
        rw [← hse, putAll_at l _ nil_map hok.once s hs] at hat
        have : s.2 = t.2 := congrArg (fun d : MD => match d with | .lit (.int _ a) => a | _ => 0) hat
        obtain ⟨x, b⟩ := t
        obtain ⟨y, c⟩ := s
        simp only at hse this
        subst hse this
        exact hs
      · intro ht
        obtain ⟨⟨t0, t1⟩, t2, t3⟩ := hok.ok t ht
        have hh : Maps.has (putAll (.map []) l) (kx t.1) = true := by
          rw [putAll_has _ _ nil_map, has_nil, Bool.false_or, hasNum_iff]
          exact ⟨t, ht, rfl⟩
        obtain ⟨a, ha⟩ := h.all t.1 (wf_u32_of t0 (by omega)) hh
        have h3 := (h.ok _ ha).2.2.2
        simp only at h3
        rw [putAll_at l _ nil_map hok.once t ht] at h3
        have : t.2 = a := congrArg (fun d : MD => match d with | .lit (.int _ a) => a | _ => 0) h3
        obtain ⟨x, b⟩ := t
        simp only at this ha
        rw [this]
        exact ha
    · exact h.sorted.imp (fun {a b} hab e => by subst e; omega)
    · exact hok.once.imp (fun {a b} hab e => hab (by rw [e]))
  exact hp.length_eq
/-- what Less leaves -/
theorem less_at {l : List (Int × Int)} (hok : SomeOk l) (os : List Int) {t : Int × Int} (ht : t ∈ l) : Maps.has (delAll (putAll (.map []) l) os) (kx t.1) = !os.contains t.1 ∧ (os.contains t.1 = false → (delAll (putAll (.map []) l) os).atKey (kx t.1) z0 = .lit (.int .i64 t.2)) ∧
    (os.contains t.1 = true → ¬ WithinP (putAll (.map []) l) (delAll (putAll (.map []) l) os)) := by
  have hh : Maps.has (putAll (.map []) l) (kx t.1) = true := by
    rw [putAll_has _ _ nil_map, has_nil, Bool.false_or, hasNum_iff]
    exact ⟨t, ht, rfl⟩
  obtain ⟨⟨t0, t1⟩, _⟩ := hok.ok t ht
  cases hc : os.contains t.1 with
  | false =>
    have hn : t.1 ∉ os := fun h => by rw [List.contains_iff_mem.2 h] at hc; cases hc
    have h2 := delAll_has os _ t.1 hh hn
    refine ⟨by rw [h2]; rfl, fun _ => ?_, (fun h => by cases h)⟩
    rw [(delAll_inn os _ t.1 h2).2.1, putAll_at l _ nil_map hok.once t ht]
  | true =>
    have hm : t.1 ∈ os := List.contains_iff_mem.1 hc
    have h2 : Maps.has (delAll (putAll (.map []) l) os) (kx t.1) = false := by
      cases h3 : Maps.has (delAll (putAll (.map []) l) os) (kx t.1) with
      | false => rfl
      | true => exact absurd hm (delAll_inn os _ t.1 h3).2.2
    refine ⟨by rw [h2]; rfl, (fun h => by cases h), fun _ hw => ?_⟩
    have := (hw t.1 (wf_u32_of t0 (by omega)) hh).1
    rw [h2] at this
    cases this
end Go.Proofs.Ytgppbdcnpailaaa
