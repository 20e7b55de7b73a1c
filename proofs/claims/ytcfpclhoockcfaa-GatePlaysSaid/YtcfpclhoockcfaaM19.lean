/-
  What the document says of lists of grants: Granted, Within, May, Less.
-/
import Derived.Test.YtcfpclhoockcfaaM18
namespace Go.Proofs.Ytcfpclhoockcfaa
open Go.RowKit Go.PlainAid Go.BigFrame
set_option linter.unusedVariables false
set_option linter.unusedSimpArgs false
set_option maxRecDepth 100000
theorem findN_at {l : List (Int × Int)} {x : Int} {k : Nat} {t : Int × Int} (hn : ∀ j s, j < k → l[j]? = some s → s.1 ≠ x) (h : l[k]? = some t) (ht : t.1 = x) : findN l x = (t.2, true) := by
  induction l generalizing k with
  | nil => simp at h
  | cons a r ih =>
    cases k with
    | zero =>
      have e : a = t := by simpa using h
      subst e
      simp [findN, ht]
    | succ k =>
      have ha := hn 0 a (by omega) (by simp)
      have hb : (a.1 == x) = false := by simpa using ha
      have h1 := ih (k := k) (fun j s hj hs => hn (j + 1) s (by omega) (by simpa using hs)) (by simpa using h)
      unfold findN at h1 ⊢
      rw [List.find?_cons, hb]
      exact h1
theorem findN_end {l : List (Int × Int)} {x : Int} (hn : ∀ j s, j < l.length → l[j]? = some s → s.1 ≠ x) : findN l x = (0, false) := by
  refine findN_none ?_
  unfold hasNum
  rw [List.any_eq_false]
  intro t ht
  obtain ⟨j, hj⟩ := List.mem_iff_getElem?.1 ht
  have := hn j t (List.getElem?_eq_some_iff.1 hj).1 hj
  simpa using this
theorem rGranted_any (A : Option Addr) (n c B : Nat) (l : List (Int × Int)) (x : Int) (w : World) (hr : GReads w B A n l) (hB : B ≤ w.heap.size) (hn : n ≤ 140737488351232) :
    Calls Try.prog 18 #[.slice A n c, .int .u32 x] w fun e w' => e = .returned (.tuple #[.int .i64 (findN l x).1, .bool (findN l x).2]) ∧ w' = w := by
  have HR := hide_ hr
  have HB := hide_ hB
  have HL := hide_ hr.1
  clear hr hB
  go_enter Try.func18, Try.ntmps18
  go_wp2
  go_loopw [6] (fun i wr => ∃ k : Nat, k ≤ n ∧ i = .int .i64 k ∧ w = wr ∧ Hid (∀ j s, j < k → l[j]? = some s → s.1 ≠ x)) (fun i _ => n - (intOf i).toNat)
  case atStart => exact ⟨0, Nat.zero_le _, rfl, rfl, hide_ (fun j s hj => absurd hj (by omega))⟩
  case round =>
    obtain ⟨k, hk, rfl, hw, HE⟩ := hrel
    subst hw
    by_cases hlt : k < n
    · obtain ⟨⟨y, a⟩, ht⟩ : ∃ t, l[k]? = some t := ⟨_, List.getElem?_eq_getElem (by rw [HL.out]; exact hlt)⟩
      obtain ⟨ad, rfl, hbk, hc⟩ := HR.out.2 (by omega)
      obtain ⟨c0, c1⟩ := hc k y a ht
      have hbs : (ad.add (k * 2)).block < w.heap.size := by rw [block_of_add]; have := HB.out; omega
      have HT := hide_ ht
      clear hc hbk ht
      by_cases he : y = x
      · have hyx : (y == x) = true := by simpa using he
        have HF := hide_ (findN_at HE.out HT.out he)
        clear he
        go_wp2
        go_ret2
        rw [HF.out]
        exact ⟨rfl, rfl⟩
      · have hyx : (y == x) = false := by simpa using he
        have HE2 := hide_ (show ∀ j s, j < k + 1 → l[j]? = some s → s.1 ≠ x from fun j s hj hs => by
          by_cases h : j = k
          · subst h
            rw [HT.out] at hs
            injection hs with hs
            rw [← hs]
            exact he
          · exact HE.out j s (by omega) hs)
        clear he
        go_wp2
        go_roundw
        case rel => exact ⟨k + 1, by omega, by go_num, by first | trivial | rfl, HE2⟩
        case measure => simp [intOf]; omega
    · obtain rfl : k = n := by omega
      have HF := hide_ (findN_end (l := l) (x := x) (by rw [HL.out]; exact HE.out))
      go_wp2
      go_ret2
      rw [HF.out]
      exact ⟨rfl, rfl⟩
theorem rWithin_any (A A' : Option Addr) (n c n' c' B : Nat) (a b : List (Int × Int)) (w : World) (hr : GReads w B A n a) (hr' : GReads w B A' n' b) (hB : B ≤ w.heap.size) (hn : n ≤ 140737488351232) (hn' : n' ≤ 140737488351232) :
    Calls Try.prog 23 #[.slice A n c, .slice A' n' c'] w fun e w' => e = .returned (.bool (withinL a b)) ∧ w' = w := by
  have HR := hide_ hr
  have HG := hide_ (fun x => rGranted_any A' n' c' B b x w hr' hB hn')
  have HB := hide_ hB
  have HL := hide_ hr.1
  clear hr hr' hB
  go_enter Try.func23, Try.ntmps23
  go_wp2
  go_loopw [5] (fun i wr => ∃ k : Nat, k ≤ n ∧ i = .int .i64 k ∧ w = wr ∧ Hid (∀ j s, j < k → a[j]? = some s → findN b s.1 = (s.2, true))) (fun i _ => n - (intOf i).toNat)
  case atStart => exact ⟨0, Nat.zero_le _, rfl, rfl, hide_ (fun j s hj => absurd hj (by omega))⟩
  case round =>
    obtain ⟨k, hk, rfl, hw, HE⟩ := hrel
    subst hw
    by_cases hlt : k < n
    · obtain ⟨⟨y, z⟩, ht⟩ : ∃ t, a[k]? = some t := ⟨_, List.getElem?_eq_getElem (by rw [HL.out]; exact hlt)⟩
      obtain ⟨ad, rfl, hbk, hc⟩ := HR.out.2 (by omega)
      obtain ⟨c0, c1⟩ := hc k y z ht
      have hbs : (ad.add (k * 2)).block < w.heap.size := by rw [block_of_add]; have := HB.out; omega
      have HT := hide_ ht
      clear hc hbk ht
      obtain ⟨f1, f2, hf⟩ : ∃ f1 f2, findN b y = (f1, f2) := ⟨_, _, rfl⟩
      have hg := HG.out y
      rw [hf] at hg
      have HGG := hide_ hg
      have HF := hide_ hf
      clear hg hf
      go_wp2_with fail
      refine HGG.out.mono ?_
      rintro e w1 ⟨rfl, hw1⟩
      subst hw1
      dsimp only
      by_cases h2 : f2 = true
      · subst h2
        by_cases h1 : f1 = z
        · have hz : (f1 != z) = false := by simpa using h1
          have HE2 := hide_ (show ∀ j s, j < k + 1 → a[j]? = some s → findN b s.1 = (s.2, true) from fun j s hj hs => by
            by_cases h : j = k
            · subst h
              rw [HT.out] at hs
              injection hs with hs
              rw [← hs]
              show findN b y = (z, true)
              rw [HF.out, h1]
            · exact HE.out j s (by omega) hs)
          clear h1
          go_wp2
          go_roundw
          case rel => exact ⟨k + 1, by omega, by go_num, by first | trivial | rfl, HE2⟩
          case measure => simp [intOf]; omega
        · have hz : (f1 != z) = true := by simpa using h1
          have HN := hide_ (show withinL a b = false by
            unfold withinL
            rw [List.all_eq_false]
            refine ⟨(y, z), List.mem_iff_getElem?.2 ⟨k, HT.out⟩, ?_⟩
            rw [decide_eq_true_eq, HF.out]
            intro e
            injection e with e1
            exact h1 e1)
          clear h1
          go_wp2
          go_ret
          rw [HN.out]
          exact ⟨rfl, rfl⟩
      · have hf2 : f2 = false := by simpa using h2
        subst hf2
        have HN := hide_ (show withinL a b = false by
          unfold withinL
          rw [List.all_eq_false]
          refine ⟨(y, z), List.mem_iff_getElem?.2 ⟨k, HT.out⟩, ?_⟩
          rw [decide_eq_true_eq, HF.out]
          intro e
          injection e with _ e2
          cases e2)
        clear h2
        go_wp2
        go_ret
        rw [HN.out]
        exact ⟨rfl, rfl⟩
    · obtain rfl : k = n := by omega
      have HN := hide_ (show withinL a b = true by
        unfold withinL
        rw [List.all_eq_true]
        intro t ht
        obtain ⟨j, hj⟩ := List.mem_iff_getElem?.1 ht
        rw [decide_eq_true_eq]
        exact HE.out j t (by rw [← HL.out]; exact (List.getElem?_eq_some_iff.1 hj).1) hj)
      go_wp2
      go_ret
      rw [HN.out]
      exact ⟨rfl, rfl⟩
end Go.Proofs.Ytcfpclhoockcfaa
/-
  What the document says of lists of grants: May, Less.
-/
namespace Go.Proofs.Ytcfpclhoockcfaa
open Go.RowKit Go.PlainAid Go.BigFrame
set_option linter.unusedVariables false
set_option linter.unusedSimpArgs false
set_option maxRecDepth 100000
def Drew (w w' : World) : Prop := ∃ k, w' = w.drewN k
theorem Drew.refl (w : World) : Drew w w := ⟨0, rfl⟩
theorem Drew.more {w w' : World} (h : Drew w w') (k : Nat) : Drew w (w'.drewN k) := by
  obtain ⟨n, rfl⟩ := h
  exact ⟨_, World.drewN_drewN _ _ _⟩
theorem Drew.trans {a b c : World} (h : Drew a b) (k : Drew b c) : Drew a c := by
  obtain ⟨n, rfl⟩ := k
  exact h.more n
theorem Drew.cell {w w' : World} (h : Drew w w') (p : Addr) : w'.cell? p = w.cell? p := by obtain ⟨n, rfl⟩ := h; rfl
theorem Drew.size {w w' : World} (h : Drew w w') : w'.heap.size = w.heap.size := by obtain ⟨n, rfl⟩ := h; rfl
theorem Drew.below {w w' : World} (h : Drew w w') (B : Nat) : Below B w w' := by obtain ⟨n, rfl⟩ := h; exact below_draws2 (Below.refl _ _) n
/-- the first k may be, each number once -/
def MayUp (l : List (Int × Int)) (k : Nat) : Prop := (∀ i t, i < k → l[i]? = some t → t.1 ≤ 2147483647 ∧ 0 ≤ t.2 ∧ t.2 ≤ 15) ∧ ∀ i j s t, j < i → i < k → l[i]? = some s → l[j]? = some t → t.1 ≠ s.1
theorem mayUp_all {l : List (Int × Int)} (h0 : ∀ t ∈ l, 0 ≤ t.1) (h64 : l.length ≤ 64) (h : MayUp l l.length) : LOk l := by
  refine ⟨h64, List.pairwise_iff_getElem.2 fun i j hi hj hij => ?_, fun t ht => ?_⟩
  · exact h.2 j i _ _ hij hj (List.getElem?_eq_getElem hj) (List.getElem?_eq_getElem hi)
  · obtain ⟨j, hj⟩ := List.mem_iff_getElem?.1 ht
    have := h.1 j t (List.getElem?_eq_some_iff.1 hj).1 hj
    exact ⟨⟨h0 t ht, this.1⟩, this.2⟩
theorem lok_get {l : List (Int × Int)} (h : LOk l) {i : Nat} {t : Int × Int} (ht : l[i]? = some t) : t.1 ≤ 2147483647 ∧ 0 ≤ t.2 ∧ t.2 ≤ 15 := by
  have := h.ok t (List.mem_of_getElem? ht)
  exact ⟨this.1.2, this.2⟩
theorem lok_ne {l : List (Int × Int)} (h : LOk l) {i j : Nat} {s t : Int × Int} (hij : j < i) (hi : l[i]? = some s) (hj : l[j]? = some t) : t.1 ≠ s.1 := by
  have h1 := (List.getElem?_eq_some_iff.1 hi)
  have h2 := (List.getElem?_eq_some_iff.1 hj)
  have := List.pairwise_iff_getElem.1 h.once j i h2.1 h1.1 hij
  rw [h1.2, h2.2] at this
  exact this
set_option maxHeartbeats 2000000 in
theorem rMay_any (A : Option Addr) (n c B : Nat) (l : List (Int × Int)) (w : World) (hr : GReads w B A n l) (hB : B ≤ w.heap.size) (hn : n ≤ 140737488351232) (h0 : ∀ t ∈ l, 0 ≤ t.1) :
    Calls Try.prog 14 #[.slice A n c] w fun e w' => (∃ b, e = .returned (.bool b) ∧ (b = true ↔ LOk l)) ∧ Below w.heap.size w w' := by
  have HR := hide_ hr
  have HB := hide_ hB
  have HL := hide_ hr.1
  have H0 := hide_ h0
  clear hr hB h0
  by_cases h64 : 64 < n
  · have hc : (64 : Int) < (n : Int) := by omega
    go_enter Try.func14, Try.ntmps14
    go_wp2
    go_ret
    exact ⟨⟨_, rfl, by simp; intro h; have := h.few; rw [HL.out] at this; omega⟩, Below.refl _ _⟩
  · have hc : ¬ (64 : Int) < (n : Int) := by omega
    go_enter Try.func14, Try.ntmps14
    go_wp2
    go_loopw [3] (fun i wr => ∃ k : Nat, k ≤ n ∧ i = .int .i64 k ∧ Drew w wr ∧ Hid (MayUp l k)) (fun i _ => n - (intOf i).toNat)
    case atStart => exact ⟨0, Nat.zero_le _, rfl, Drew.refl w, hide_ ⟨fun i t hi => absurd hi (by omega), fun i j s t _ hi => absurd hi (by omega)⟩⟩
    case round =>
      obtain ⟨k, hk, rfl, hd, HM⟩ := hrel
      have HD := hide_ hd
      by_cases hlt : k < n
      · obtain ⟨⟨y, z⟩, ht⟩ : ∃ t, l[k]? = some t := ⟨_, List.getElem?_eq_getElem (by rw [HL.out]; exact hlt)⟩
        obtain ⟨ad, rfl, hbk, hcl⟩ := HR.out.2 (by omega)
        obtain ⟨c0, c1⟩ := hcl k y z ht
        have c0 := (hd.cell _).trans c0
        have c1 := (hd.cell _).trans c1
        have hbs : (ad.add (k * 2)).block < wr.heap.size := by rw [block_of_add, hd.size]; have := HB.out; omega
        have HT := hide_ ht
        have HCL := hide_ hcl
        have HBK := hide_ hbk
        clear hcl hbk ht hd
        by_cases e1 : 2147483647 < y
        · have e1' : decide ((2147483647 : Int) < y) = true := by simpa using e1
          have HN := hide_ (show ¬ LOk l from fun h => by have := lok_get h HT.out; simp only at this; omega)
          clear e1
          go_wp2
          go_ret
          exact ⟨⟨_, rfl, by simp [HN.out]⟩, HD.out.below _⟩
        · have e1' : decide ((2147483647 : Int) < y) = false := by simpa using e1
          by_cases e2 : z < 0
          · have e2' : decide (z < 0) = true := by simpa using e2
            have HN := hide_ (show ¬ LOk l from fun h => by have := lok_get h HT.out; simp only at this; omega)
            clear e1 e2
            go_wp2
            go_ret
            exact ⟨⟨_, rfl, by simp [HN.out]⟩, HD.out.below _⟩
          · have e2' : decide (z < 0) = false := by simpa using e2
            by_cases e3 : 15 < z
            · have e3' : decide (15 < z) = true := by simpa using e3
              have HN := hide_ (show ¬ LOk l from fun h => by have := lok_get h HT.out; simp only at this; omega)
              clear e1 e2 e3
              go_wp2
              go_ret
              exact ⟨⟨_, rfl, by simp [HN.out]⟩, HD.out.below _⟩
            · have e3' : decide (15 < z) = false := by simpa using e3
              have HE := hide_ (show y ≤ 2147483647 ∧ 0 ≤ z ∧ z ≤ 15 by omega)
              clear e1 e2 e3
              go_wp2
              clear e1' e2' e3' c1
              obtain ⟨wv, rfl⟩ : ∃ wo : World, wo = wr := ⟨_, rfl⟩
              have C0 := hide_ c0
              have HBS := hide_ hbs
              clear c0 hbs
              go_loopw [4] (fun i wr => ∃ j : Nat, j ≤ k ∧ i = .int .i64 j ∧ Drew w wr ∧ Hid (∀ q t, q < j → l[q]? = some t → t.1 ≠ y)) (fun i _ => k - (intOf i).toNat)
              case atStart => exact ⟨0, Nat.zero_le _, rfl, HD.out, hide_ (fun q t hq => absurd hq (by omega))⟩
              case round =>
                obtain ⟨j, hj, rfl, hd2, HQ⟩ := hrel
                have HD2 := hide_ hd2
                have c0 := ((hd2.cell _).trans (HD.out.cell _).symm).trans C0.out
                have hbs : (ad.add (k * 2)).block < wr.heap.size := by rw [hd2.size, ← HD.out.size]; exact HBS.out
                by_cases hlt2 : j < k
                · obtain ⟨⟨y2, z2⟩, ht2⟩ : ∃ t, l[j]? = some t := ⟨_, List.getElem?_eq_getElem (by rw [HL.out]; omega)⟩
                  obtain ⟨d0, _⟩ := HCL.out j y2 z2 ht2
                  have d0 := (hd2.cell _).trans d0
                  have hbs2 : (ad.add (j * 2)).block < wr.heap.size := by rw [block_of_add, hd2.size]; have := HB.out; have := HBK.out; omega
                  have HT2 := hide_ ht2
                  clear ht2 hd2
                  by_cases he : y2 = y
                  · have he' : (y2 == y) = true := by simpa using he
                    have HN := hide_ (show ¬ LOk l from fun h => lok_ne h hlt2 HT.out HT2.out he)
                    clear he
                    go_wp2
                    go_big_quiet (fail)
                    go_wp2
                    go_ret
                    exact ⟨⟨_, rfl, by simp [HN.out]⟩, (HD2.out.more _).below _⟩
                  · have he' : (y2 == y) = false := by simpa using he
                    have HQ2 := hide_ (show ∀ q t, q < j + 1 → l[q]? = some t → t.1 ≠ y from fun q t hq ht => by
                      by_cases h : q = j
                      · subst h
                        rw [HT2.out] at ht
                        injection ht with ht
                        rw [← ht]
                        exact he
                      · exact HQ.out q t (by omega) ht)
                    clear he
                    go_wp2
                    go_big_quiet (fail)
                    go_wp2
                    go_roundw
                    case rel => exact ⟨j + 1, by omega, by go_num, HD2.out.more _, HQ2⟩
                    case measure => simp [intOf]; omega
                · have hjk : j = k := by omega
                  have HM2 := hide_ (show MayUp l (k + 1) from ⟨fun i t hi ht => by
                    by_cases h : i = k
                    · subst h
                      rw [HT.out] at ht
                      injection ht with ht
                      rw [← ht]
                      exact HE.out
                    · exact HM.out.1 i t (by omega) ht, fun i q s t hq hi hs ht => by
                    by_cases h : i = k
                    · subst h
                      rw [HT.out] at hs
                      injection hs with hs
                      rw [← hs]
                      exact HQ.out q t (by omega) ht
                    · exact HM.out.2 i q s t hq (by omega) hs ht⟩)
                  clear c0 hbs hd2
                  subst hjk
                  go_wp2
                  go_roundw
                  case rel => exact ⟨j + 1, by omega, by go_num, HD2.out, HM2⟩
                  case measure => simp [intOf]; omega
      · have hkn : k = n := by omega
        have HN := hide_ (show LOk l from mayUp_all H0.out (by rw [HL.out]; omega) (by rw [HL.out, ← hkn]; exact HM.out))
        subst hkn
        clear hd
        go_wp2
        go_ret
        exact ⟨⟨_, rfl, by simp [HN.out]⟩, HD.out.below _⟩
end Go.Proofs.Ytcfpclhoockcfaa
/-
  What the document leaves of a list of grants: Less.
-/
namespace Go.Proofs.Ytcfpclhoockcfaa
open Go.RowKit Go.PlainAid Go.BigFrame
set_option linter.unusedVariables false
set_option linter.unusedSimpArgs false
set_option maxRecDepth 100000
theorem take_one {α : Type} {l : List α} {k : Nat} {t : α} (h : l[k]? = some t) : l.take (k + 1) = l.take k ++ [t] := by
  rw [List.take_add_one, h]; simp
theorem lessL_take {l : List (Int × Int)} {os : List Int} {k : Nat} {t : Int × Int} (h : l[k]? = some t) : lessL (l.take (k + 1)) os = lessL (l.take k) os ++ if os.contains t.1 then [] else [t] := by
  unfold lessL
  have e : List.filter (fun t : Int × Int => !os.contains t.1) [t] = if os.contains t.1 then [] else [t] := by
    rw [List.filter_cons]
    cases os.contains t.1 <;> rfl
  rw [take_one h, List.filter_append, e]
theorem lessL_len (l : List (Int × Int)) (os : List Int) (k : Nat) : (lessL (l.take k) os).length ≤ k := by
  have h1 := List.length_filter_le (fun t : Int × Int => !os.contains t.1) (l.take k)
  have h2 := List.length_take_le k l
  unfold lessL
  omega
theorem contains_one {os : List Int} {j : Nat} {u y : Int} (h : os[j]? = some u) : (os.take (j + 1)).contains y = ((os.take j).contains y || (u == y)) := by
  rw [take_one h]
  by_cases e : u = y
  · subst e; simp
  · have e2 : (u == y) = false := by simpa using e
    have e3 : ¬ y = u := fun h => e h.symm
    simp [e2, e3]
set_option maxHeartbeats 2000000 in
theorem rLess_any (A A' : Option Addr) (n c m c' B : Nat) (l : List (Int × Int)) (os : List Int) (w : World) (hr : GReads w B A n l) (ho : Reads w B 1 A' m (u32s os)) (hB : B ≤ w.heap.size) (hn : n * 16 ≤ 140737488351232) (hm : m ≤ 140737488351232) :
    Calls Try.prog 47 #[.slice A n c, .slice A' m c'] w fun e w' => ∃ v, e = .returned v ∧ w'.ownsRow w.heap.size 68 2 v (lessL l os).length (gCells (lessL l os)) ∧ Below w.heap.size w w' := by
  obtain ⟨i0, hi0, hz0, hz1, hz2⟩ := info_parts gr_info
  have HR := hide_ hr
  have HRO := hide_ ho
  have HB := hide_ hB
  have HL := hide_ hr.1
  have HLO := hide_ (show os.length = m by have := ho.1; simpa using this)
  have HO0 := hide_ (Owns.nilrow (Owns.nil_ (w := w) (B := w.heap.size)) 68 2)
  clear hr ho hB
  go_enter Try.func47, Try.ntmps47
  go_wp2
  go_loopw [5, 6] (fun v i wr => ∃ k : Nat, k ≤ n ∧ i = .int .i64 k ∧ Hid (Owns wr w.heap.size [⟨68, 2, v, (lessL (l.take k) os).length, gCells (lessL (l.take k) os)⟩]) ∧ Hid (Below w.heap.size w wr)) (fun _ i _ => n - (intOf i).toNat)
  case atStart => exact ⟨0, Nat.zero_le _, rfl, HO0, hide_ (Below.refl _ _)⟩
  case round =>
    clear HO0
    obtain ⟨k, hk, rfl, HO, HW⟩ := hrel
    obtain ⟨A1, c1, hv, _, _⟩ := ownsRow_slice (HO.out.at_ (i := 0) rfl)
    dsimp only at hv
    subst hv
    by_cases hlt : k < n
    · obtain ⟨⟨y, z⟩, ht⟩ : ∃ t, l[k]? = some t := ⟨_, List.getElem?_eq_getElem (by rw [HL.out]; exact hlt)⟩
      obtain ⟨ad, rfl, hbk, hcl⟩ := (HR.out.below (HW.out.mono HB.out)).2 (by omega)
      obtain ⟨c0, c1'⟩ := hcl k y z ht
      have hbs : (ad.add (k * 2)).block < wr.heap.size := by rw [block_of_add]; have := HB.out; have := HW.out.size; omega
      have HN := hide_ (lessL_take (os := os) ht)
      have HLN := hide_ (lessL_len l os k)
      have CC := hide_ (And.intro c0 (And.intro c1' hbs))
      obtain ⟨X, hX⟩ : ∃ X, X = lessL (l.take k) os := ⟨_, rfl⟩
      rw [← hX] at HO HN HLN ⊢
      clear hcl hbk ht hX c0 c1' hbs
      obtain ⟨wv, rfl⟩ : ∃ wo : World, wo = wr := ⟨_, rfl⟩
      go_wp2
      go_loopw [7, 8] (fun gv i wr => ∃ j : Nat, j ≤ m ∧ i = .int .i64 j ∧ gv = .bool ((os.take j).contains y) ∧ Drew wv wr) (fun _ i _ => m - (intOf i).toNat)
      case atStart => exact ⟨0, Nat.zero_le _, rfl, by simp, Drew.refl wv⟩
      case round =>
        obtain ⟨j, hj, rfl, rfl, hd⟩ := hrel
        have HD := hide_ hd
        obtain ⟨c0, c1', hbs⟩ := CC.out
        have c0 := (hd.cell _).trans c0
        have c1' := (hd.cell _).trans c1'
        have hbs : (ad.add (k * 2)).block < wr.heap.size := by rw [hd.size]; exact hbs
        by_cases hlt2 : j < m
        · obtain ⟨ad', u, rfl, hbk', hx', hc'⟩ := (HRO.out.below (HW.out.mono HB.out)).at_ hlt2
          have hu := get_map (Value.int .u32) os 0 j (by rw [HLO.out]; exact hlt2) hx'
          subst hu
          have d0 := (hd.cell _).trans hc'
          have hbs2 : (ad'.add j).block < wr.heap.size := by rw [block_of_add, hd.size]; have := HB.out; have := HW.out.size; omega
          have hoj : os[j]? = some (os[j]?.getD 0) := by
            have : j < os.length := by rw [HLO.out]; exact hlt2
            rw [List.getElem?_eq_getElem this]
            rfl
          have HC := hide_ (contains_one (y := y) hoj)
          obtain ⟨u, hu⟩ : ∃ u, u = os[j]?.getD 0 := ⟨_, rfl⟩
          rw [← hu] at HC d0
          obtain ⟨q, hq⟩ : ∃ q, q = (os.take j).contains y := ⟨_, rfl⟩
          rw [← hq] at HC ⊢
          clear hx' hc' hbk' hoj hu hd hq c1'
          by_cases he : u = y
          · have he' : (u == y) = true := by simpa using he
            rw [he', Bool.or_true] at HC
            clear he
            go_wp2
            go_big_quiet (fail)
            go_wp2
            go_roundw
            case rel => exact ⟨j + 1, by omega, by go_num, by rw [HC.out], HD.out.more _⟩
            case measure => simp [intOf]; omega
          · have he' : (u == y) = false := by simpa using he
            rw [he', Bool.or_false] at HC
            clear he
            go_wp2
            go_big_quiet (fail)
            go_wp2
            go_roundw
            case rel => exact ⟨j + 1, by omega, by go_num, by rw [HC.out], HD.out.more _⟩
            case measure => simp [intOf]; omega
        · have hjm : j = m := by omega
          have HOD := hide_ (HO.out.below (HD.out.below _))
          have HWD := hide_ (HW.out.trans (HD.out.below _))
          rw [show os.take j = os from List.take_of_length_le (by rw [HLO.out, hjm]; exact Nat.le_refl _)]
          subst hjm
          clear hd
          by_cases hg : os.contains y = true
          · rw [hg] at HN ⊢
            have HN2 := hide_ (show lessL (l.take (k + 1)) os = X by rw [HN.out]; simp)
            clear hg
            go_wp2
            go_roundw
            case rel => exact ⟨k + 1, by omega, by go_num, hide_ (by rw [HN2.out]; exact HOD.out), HWD⟩
            case measure => simp [intOf]; omega
          · have hg' : os.contains y = false := by simpa using hg
            rw [hg'] at HN ⊢
            have HN2 := hide_ (show lessL (l.take (k + 1)) os = X ++ [(y, z)] by rw [HN.out]; simp)
            have hlx := HLN.out
            clear hg hg'
            go_wp2_with (at_builtin; refine wpList_append_owns _ rfl (.tmp 33) (.tmp 38) 22 rfl w.heap.size _ 0 68 2 (.slice A1 X.length c1) X.length (gCells X) rfl (HOD.out.alloc _) (by have := HWD.out.size; simp; omega) i0 _ 16 Try.underlying22 hi0 hz0 hz1 hz2 rfl (by omega) rfl _ _ 1 1 [.int .u32 y, .int .i64 z] rfl (reads_new wr 68 2 1 [.int .u32 y, .int .i64 z] rfl) (by simp [Value.oneCell']) (by simp only [maxLen]; omega) (by omega) ?_)
            intro v2 w2 hO2 hb2 hsz2
            have HO2 := hide_ (show Owns w2 w.heap.size [⟨68, 2, v2, (X ++ [(y, z)]).length, gCells (X ++ [(y, z)])⟩] by rw [gCells_snoc, List.length_append]; exact hO2)
            have HB2 := hide_ ((HWD.out.alloc HWD.out.size _).trans hb2)
            clear hO2 hb2 hsz2
            go_wp2
            go_roundw
            case rel => exact ⟨k + 1, by omega, by go_num, hide_ (by rw [HN2.out]; exact HO2.out), HB2⟩
            case measure => simp [intOf]; omega
    · have hkn : k = n := by omega
      have HE := hide_ (show lessL (l.take k) os = lessL l os by rw [List.take_of_length_le (by rw [HL.out, hkn]; exact Nat.le_refl _)])
      subst hkn
      go_wp2
      go_ret
      refine ⟨_, rfl, ?_, HW.out⟩
      have h9 := HO.out.at_ (i := 0) rfl
      rw [HE.out] at h9
      rw [← HE.out]
      rw [HE.out]
      exact h9
end Go.Proofs.Ytcfpclhoockcfaa
