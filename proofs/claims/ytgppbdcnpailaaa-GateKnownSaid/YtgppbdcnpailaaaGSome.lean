/-
  The walk of playpenlaw16.some.
-/
import Derived.Test.YtgppbdcnpailaaaGNew
import Derived.Test.YtgppbdcnpailaaaMemRaw
namespace Go.Proofs.Ytgppbdcnpailaaa
open Go.RowKit Go.Maps

def gCells (l : List (Int × Int)) : List Value := l.flatMap fun t => [.int .u32 t.1, .int .i64 t.2]
theorem gCells_len (l : List (Int × Int)) : (gCells l).length = l.length * 2 := by
  induction l with
  | nil => rfl
  | cons t r ih => unfold gCells at ih ⊢; rw [List.flatMap_cons, List.length_append, ih]; simp; omega
theorem gCells_snoc (l : List (Int × Int)) (x a : Int) : gCells (l ++ [(x, a)]) = gCells l ++ [.int .u32 x, .int .i64 a] := by simp [gCells]
theorem gCells_get (l : List (Int × Int)) {k : Nat} {t : Int × Int} (h : l[k]? = some t) : (gCells l)[k * 2]? = some (.int .u32 t.1) ∧ (gCells l)[k * 2 + 1]? = some (.int .i64 t.2) := by
  induction l generalizing k with
  | nil => simp at h
  | cons a r ih =>
    cases k with
    | zero =>
      have e : a = t := by simpa using h
      subst e
      exact ⟨rfl, rfl⟩
    | succ k =>
      have := ih (k := k) (by simpa using h)
      unfold gCells at this ⊢
      rw [List.flatMap_cons, show (k + 1) * 2 = k * 2 + 2 by omega, show k * 2 + 2 + 1 = (k * 2 + 1) + 2 by omega]
      simpa using this
theorem GReads.of_reads {w : World} {B n : Nat} {A : Option Addr} {l : List (Int × Int)} (h : Reads w B 2 A n (gCells l)) : GReads w B A n l := by
  refine ⟨by have := h.1; rw [gCells_len] at this; omega, fun hn => ?_⟩
  obtain ⟨ad, e, hlt, hj⟩ := h.2 hn
  refine ⟨ad, e, hlt, fun j x a hx => ?_⟩
  obtain ⟨g0, g1⟩ := gCells_get l hx
  refine ⟨hj _ _ g0, ?_⟩
  have e1 : ad.add (j * 2 + 1) = ⟨(ad.add (j * 2)).block, (ad.add (j * 2)).off + 1, none⟩ := by
    rw [← add_of_add]
    generalize ad.add (j * 2) = p
    unfold Addr.add
    simp
  rw [← e1]
  exact hj _ _ g1
def hasNum (l : List (Int × Int)) (x : Int) : Bool := l.any (fun t => t.1 == x)
def someStep (l : List (Int × Int)) (x : Int) : List (Int × Int) := if hasNum l (x % 2147483648) then l else l ++ [(x % 2147483648, x % 16)]
def someFrom : List (Int × Int) → List Int → List (Int × Int)
  | l, [] => l
  | l, x :: r => if l.length < 60 then someFrom (someStep l x) r else l
/-- grants that may be, each number once -/
structure SomeOk (l : List (Int × Int)) : Prop where
  few : l.length ≤ 60
  once : l.Pairwise fun s t => s.1 ≠ t.1
  ok : ∀ t ∈ l, (0 ≤ t.1 ∧ t.1 ≤ 2147483647) ∧ 0 ≤ t.2 ∧ t.2 ≤ 15
theorem hasNum_false {l : List (Int × Int)} {x : Int} (h : hasNum l x = false) : ∀ t ∈ l, t.1 ≠ x := by
  intro t ht e
  unfold hasNum at h
  rw [List.any_eq_false] at h
  exact h t ht (by simpa using e)
theorem someStep_ok {l : List (Int × Int)} (h : SomeOk l) (hl : l.length < 60) (x : Int) : SomeOk (someStep l x) := by
  unfold someStep
  cases hh : hasNum l (x % 2147483648) with
  | true => exact h
  | false =>
    simp only [Bool.false_eq_true, if_false]
    refine ⟨by simp; omega, ?_, fun t ht => ?_⟩
    · rw [List.pairwise_append]
      refine ⟨h.once, List.pairwise_singleton _ _, fun s hs t ht => ?_⟩
      rw [List.mem_singleton.1 ht]
      exact hasNum_false hh s hs
    · rcases List.mem_append.1 ht with ht | ht
      · exact h.ok t ht
      · rw [List.mem_singleton.1 ht]
        simp only
        omega
def putAll (D : MD) (l : List (Int × Int)) : MD := l.foldl (fun D t => putG D t.1 t.2) D
theorem kx_inj {x y : Int} (h : kx x = kx y) : x = y := congrArg (fun d : Lit => match d with | .int _ a => a | _ => 0) h
theorem newFrom_ok : ∀ (l : List (Int × Int)) (D : MD), (∀ t ∈ l, Maps.has D (kx t.1) = false) → l.Pairwise (fun s t => s.1 ≠ t.1) → (∀ t ∈ l, (0 ≤ t.1 ∧ t.1 ≤ 2147483647) ∧ 0 ≤ t.2 ∧ t.2 ≤ 15) → newFrom D l = some (putAll D l)
  | [], _, _, _, _ => rfl
  | (x, a) :: r, D, h1, h2, h3 => by
    obtain ⟨⟨_, x1⟩, a0, a1⟩ := h3 (x, a) (by simp)
    simp only at x1 a0 a1
    have hb : badG D x a = false := by
      unfold badG
      rw [h1 (x, a) (by simp)]
      simp only [Bool.false_or, Bool.or_eq_false_iff, decide_eq_false_iff_not]
      omega
    rw [newFrom, hb]
    simp only [Bool.false_eq_true, if_false]
    obtain ⟨p1, p2⟩ := List.pairwise_cons.1 h2
    refine newFrom_ok r (putG D x a) (fun t ht => ?_) p2 (fun t ht => h3 t (by simp [ht]))
    unfold putG
    rw [Maps.has_put_other (fun e => p1 t ht (kx_inj e).symm)]
    exact h1 t (by simp [ht])
theorem newD_ok {l : List (Int × Int)} (h : SomeOk l) : newD l = some (putAll (.map []) l) := by
  unfold newD
  rw [if_neg (by have := h.few; omega)]
  exact newFrom_ok l _ (fun _ _ => rfl) h.once h.ok
theorem wf_u32_of {x : Int} (h0 : 0 ≤ x) (h1 : x < 4294967296) : (Lit.int .u32 x).wf = true := by
  simp [Lit.wf, IntKind.min, IntKind.max, IntKind.signed, IntKind.bits]
  omega
theorem wf_i64_of {x : Int} (h0 : -9223372036854775808 ≤ x) (h1 : x < 9223372036854775808) : (Lit.int .i64 x).wf = true := by
  simp [Lit.wf, IntKind.min, IntKind.max, IntKind.signed, IntKind.bits]
  omega
theorem grant_info : (Try.prog.info? 95).map (fun i => (i.zero, i.size, i.bytes)) = some (some (.agg #[.int .u32 0, .int .i64 0]), 2, 16) := by kernel_rfl
def gRow (A : Option Addr) (l : List (Int × Int)) (c : Nat) : Ro := ⟨95, 2, .slice A l.length c, l.length, gCells l⟩
theorem u32s_get {xs : List Int} {j : Nat} (h : j < xs.length) : (u32s xs)[j]? = some (.int .u32 (xs[j]?.getD 0)) := by
  rw [List.getElem?_map, List.getElem?_eq_getElem h]
  rfl
set_option maxRecDepth 100000 in
set_option maxHeartbeats 1000000 in
theorem some_any (A : Option Addr) (n c : Nat) (ns : List Int) (w : World) (hr : Reads w w.heap.size 1 A n (u32s ns)) (hwf : ∀ x ∈ ns, (Lit.int .u32 x).wf = true) (hn : n ≤ 140737488351232) :
    Calls Try.prog 26 #[.slice A n c] w fun e w' => ∃ q l A' c', e = .returned (.tuple #[.pointer (some ⟨q, 0, none⟩), .slice A' l.length c']) ∧ SomeOk l ∧ GateAt w' q (putAll (.map []) l) ∧ GReads w' w'.heap.size A' l.length l ∧ l.length ≤ c' ∧ Below w.heap.size w w' := by
  obtain ⟨i0, hi0, hz0, hz1, hz2⟩ := info_parts grant_info
  have hl : ns.length = n := by simpa using hr.1
  have HR := hide_ hr
  have HL := hide_ hl
  have HWF := hide_ hwf
  have HN := hide_ hn
  clear hr hl hwf hn
  go_enter Try.func26, Try.ntmps26
  go_wp2
  go_loopw [4, 5] (fun lv i wr => ∃ (k : Nat) (l : List (Int × Int)) (Al : Option Addr) (cl : Nat), k ≤ n ∧ i = .int .i64 k ∧ lv = .slice Al l.length cl ∧ SomeOk l ∧ Owns wr w.heap.size [gRow Al l cl] ∧ Below w.heap.size w wr) (fun _ i _ => n - (intOf i).toNat)
  case atStart => exact ⟨0, [], none, 0, Nat.zero_le _, rfl, rfl, ⟨by simp, List.Pairwise.nil, by simp⟩, ⟨fun r hr => by rw [List.mem_singleton.1 hr]; exact World.ownsRow_nil _ _ _ _, List.pairwise_singleton _ _⟩, Below.refl _ _⟩
  case round =>
    obtain ⟨k, l, Al, cl, hk, rfl, rfl, hok, hO, hb⟩ := hrel
    have HOK := hide_ hok
    have hfew := hok.few
    clear hok
    obtain ⟨m, hm⟩ : ∃ m, m = l.length := ⟨_, rfl⟩
    rw [← hm] at hfew
    by_cases hlt : k < n ∧ m < 60
    · obtain ⟨hk1, hm1⟩ := hlt
      obtain ⟨ad, u, rfl, hab, hu, hcu⟩ := (HR.out.below hb).at_ hk1
      have hkl : k < ns.length := by rw [HL.out]; exact hk1
      rw [u32s_get hkl] at hu
      injection hu with hu
      subst hu
      have hwx : (Lit.int .u32 (ns[k]?.getD 0)).wf = true := HWF.out _ (by rw [List.getElem?_eq_getElem hkl]; exact List.getElem_mem hkl)
      obtain ⟨x, hx⟩ : ∃ x, x = ns[k]?.getD 0 := ⟨_, rfl⟩
      rw [← hx] at hcu hwx
      obtain ⟨x0, x1⟩ := wf_u32 hwx
      have hbk : (ad.add k).block < wr.heap.size := by rw [block_of_add]; have := hb.size; omega
      have HO := hide_ hO
      have HB := hide_ hb
      have HM := hide_ hm
      have hn' := HN.out
      rw [← hm]
      clear hx hO hb hab hm
      go_wp2
      trace_state
      go_loop [7, 8] (fun tw i => ∃ j : Nat, j ≤ m ∧ i = .int .i64 j ∧ tw = .bool (hasNum (l.take j) (x % 2147483648))) (fun _ i => m - (intOf i).toNat)
      case atStart => exact ⟨0, Nat.zero_le _, rfl, rfl⟩
      case round =>
        obtain ⟨j, hj, rfl, rfl⟩ := hrel
        by_cases hj1 : j < m
        · obtain ⟨⟨y, b⟩, hy⟩ : ∃ t, l[j]? = some t := ⟨_, List.getElem?_eq_getElem (by rw [← HM.out]; exact hj1)⟩
          obtain ⟨gl, cl', hgl⟩ := ownsRow_some (HO.out.at_ (i := 0) rfl) (show 0 < l.length by rw [← HM.out]; omega)
          injection hgl with hgl _ _
          subst hgl
          have g0 : wr.cell? ⟨gl, j * 2, none⟩ = some (.int .u32 y) := HO.out.cell (i := 0) rfl (gCells_get l hy).1
          have gb : gl < wr.heap.size := (HO.out.base (i := 0) rfl).2
          have hnx : hasNum (l.take (j + 1)) (x % 2147483648) = (hasNum (l.take j) (x % 2147483648) || (y == x % 2147483648)) := by
            unfold hasNum
            rw [List.take_add_one, hy, List.any_append]
            simp
          have HNX := hide_ hnx
          obtain ⟨tb, htb⟩ : ∃ tb, tb = hasNum (l.take j) (x % 2147483648) := ⟨_, rfl⟩
          rw [← htb] at HNX ⊢
          clear hnx hy htb
          go_wp2
          all_goals
            go_round
            case rel => exact ⟨j + 1, by omega, by go_num, by rw [HNX.out]; simp [*]⟩
            case measure => simp [intOf]; omega
        · obtain rfl : j = m := by omega
          rw [List.take_of_length_le (by rw [← HM.out]; omega)]
          have hst := someStep_ok HOK.out (by rw [← HM.out]; exact hm1) x
          have x16 : 0 ≤ x % 16 ∧ x % 16 < 16 := by omega
          cases hh : hasNum l (x % 2147483648) with
          | true =>
            have HST := hide_ hst
            clear hst
            go_wp2
            go_roundw
            case rel =>
              have e : someStep l x = l := by unfold someStep; rw [hh]; rfl
              exact ⟨k + 1, l, Al, cl, by omega, by go_num, by rw [← HM.out], HOK.out, HO.out, HB.out⟩
            case measure => simp [intOf]; omega
          | false =>
            have e : someStep l x = l ++ [(x % 2147483648, x % 16)] := by unfold someStep; rw [hh]; rfl
            rw [e] at hst
            have HST := hide_ hst
            have hwsz := HB.out.size
            clear hst e
            go_wp2_with (at_builtin; refine wpList_append_owns _ rfl (.tmp 42) (.tmp 51) 38 rfl w.heap.size _ 0 95 2 (.slice Al j cl) j (gCells l) (by rw [HM.out]; rfl) (HO.out.alloc _) (by simp; omega) i0 _ 16 Try.underlying38 hi0 hz0 hz1 hz2 rfl (by omega) rfl _ _ 1 1 [.int .u32 (x % 2147483648), .int .i64 (x % 16)] rfl (reads_new wr 95 2 1 [.int .u32 (x % 2147483648), .int .i64 (x % 16)] rfl) (by simp [Value.oneCell']) (by simp only [maxLen]; omega) (by omega) ?_)
            intro v1 w1 hO1 hb1 hsz1
            have hb2 := (HB.out.alloc HB.out.size _).trans hb1
            obtain ⟨A1, c1, hv, _, _⟩ := ownsRow_slice (hO1.at_ (i := 0) rfl)
            simp only at hv
            subst hv
            have hO2 : Owns w1 w.heap.size [gRow A1 (l ++ [(x % 2147483648, x % 16)]) c1] := by
              unfold gRow
              rw [gCells_snoc, List.length_append, ← HM.out]
              exact hO1
            have HO2 := hide_ hO2
            have HB2 := hide_ hb2
            clear hO1 hb1 hb2 hO2
            go_wp2
            go_roundw
            case rel => exact ⟨k + 1, _, A1, c1, by omega, by go_num, by simp [HM.out], HST.out, HO2.out, HB2.out⟩
            case measure => simp [intOf]; omega
    · obtain ⟨h1, h2⟩ : (n ≤ k ∨ 60 ≤ m) ∧ True := ⟨by omega, trivial⟩
      have hr := GReads.of_reads (Reads.of_own (hO.at_ (i := 0) rfl))
      have hng := New_gany Al l.length cl l wr.heap.size wr hr (Nat.le_refl _) (fun t ht => by
        obtain ⟨⟨t0, t1⟩, t2, t3⟩ := HOK.out.ok t ht
        exact ⟨wf_u32_of t0 (by omega), wf_i64_of (by omega) (by omega)⟩)
      rw [newD_ok HOK.out] at hng
      obtain ⟨_, cc, hcc, hcl, _⟩ := ownsRow_slice (hO.at_ (i := 0) rfl)
      have HNG := hide_ hng
      have HR2 := hide_ hr
      have HB := hide_ hb
      have HM := hide_ hm
      have hcl' : l.length ≤ cl := by
        have h9 : Value.slice Al l.length cl = .slice _ _ cc := hcc
        injection h9 with _ _ h9
        rw [h9]; exact hcl
      have HCL := hide_ hcl'
      rw [← hm] at HNG ⊢
      clear hr hng hO hb hm hcc hcl hcl'
      have hways : (k < n ∧ decide ((m : Int) < 60) = false) ∨ k = n := by
        by_cases h3 : k < n
        · exact .inl ⟨h3, by simp; omega⟩
        · exact .inr (by omega)
      clear h1 h2 hlt
      rcases hways with ⟨d1, d2⟩ | rfl
      all_goals
        go_wp2_with fail
        refine HNG.out.mono ?_
        rintro e w2 ⟨h, hb2⟩
        rcases h with ⟨D, q, hD, rfl, hg, _⟩ | ⟨hD, _⟩
        · injection hD with hD
          subst hD
          have HG := hide_ hg
          have HR3 := hide_ ((HR2.out.below hb2).more hb2.size)
          have HB2 := hide_ (HB.out.trans (hb2.mono HB.out.size))
          clear hg hb2
          go_wp2
          go_ret2
          exact ⟨q, l, Al, cl, by rw [← HM.out]; rfl, HOK.out, HG.out, HR3.out, HCL.out, HB2.out⟩
        · cases hD
end Go.Proofs.Ytgppbdcnpailaaa
