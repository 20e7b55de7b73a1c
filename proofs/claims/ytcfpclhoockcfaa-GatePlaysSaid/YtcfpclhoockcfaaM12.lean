/-
  The walk of gate.New.
-/
import Derived.Test.YtcfpclhoockcfaaM11
import Derived.Deep.RegionHeld3
import Derived.Test.YtcfpclhoockcfaaM10
import Derived.Laws.StructEq
namespace Go.Proofs.Ytcfpclhoockcfaa
open Go.RowKit Go.Maps

theorem mapAt.drewN {w : World} {m n : Nat} {D : MD} (h : mapAt w m n D) (N : Nat) : mapAt (w.drewN N) m n D := h
def badG (D : MD) (x a : Int) : Bool := Maps.has D (kx x) || decide (2147483647 < x) || decide (a < 0) || decide (15 < a)
def putG (D : MD) (x a : Int) : MD := D.put (kx x) (.lit (.int .i64 a))
def newFrom : MD → List (Int × Int) → Option MD
  | D, [] => some D
  | D, (x, a) :: r => if badG D x a then none else newFrom (putG D x a) r
def newD (l : List (Int × Int)) : Option MD := if 64 < l.length then none else newFrom (.map []) l
def GReads (w : World) (B : Nat) (A : Option Addr) (n : Nat) (l : List (Int × Int)) : Prop :=
  l.length = n ∧ (0 < n → ∃ ad, A = some ad ∧ ad.block < B ∧ ∀ j x a, l[j]? = some (x, a) → w.cell? (ad.add (j * 2)) = some (.int .u32 x) ∧ w.cell? ⟨(ad.add (j * 2)).block, (ad.add (j * 2)).off + 1, none⟩ = some (.int .i64 a))
theorem GReads.below {w w' : World} {B n : Nat} {A : Option Addr} {l : List (Int × Int)} (h : GReads w B A n l) (hb : Below B w w') : GReads w' B A n l :=
  ⟨h.1, fun hn => by
    obtain ⟨ad, e, hlt, hj⟩ := h.2 hn
    exact ⟨ad, e, hlt, fun j x a hx => ⟨(hb.cell (by rw [block_of_add]; exact hlt)).trans (hj j x a hx).1, (hb.cell (p := ⟨(ad.add (j * 2)).block, (ad.add (j * 2)).off + 1, none⟩) (by show (ad.add (j * 2)).block < B; rw [block_of_add]; exact hlt)).trans (hj j x a hx).2⟩⟩⟩
theorem GReads.more {w : World} {B B' n : Nat} {A : Option Addr} {l : List (Int × Int)} (h : GReads w B A n l) (hB : B ≤ B') : GReads w B' A n l :=
  ⟨h.1, fun hn => by
    obtain ⟨ad, e, hlt, hj⟩ := h.2 hn
    exact ⟨ad, e, by omega, hj⟩⟩
set_option maxRecDepth 100000 in
set_option maxHeartbeats 1000000 in
theorem New_gany (A : Option Addr) (n c : Nat) (l : List (Int × Int)) (B : Nat) (w : World) (hr : GReads w B A n l) (hB : B ≤ w.heap.size) (hwf : ∀ t ∈ l, (Lit.int .u32 t.1).wf = true ∧ (Lit.int .i64 t.2).wf = true) :
    Calls Try.prog 11 #[.slice A n c] w fun e w' => ((∃ D q, newD l = some D ∧ e = .returned (.tuple #[.pointer (some ⟨q, 0, none⟩), .int .i64 0]) ∧ GateAt w' q D ∧ GateNew w w' q) ∨ (newD l = none ∧ e = .returned (.tuple #[.pointer none, .int .i64 160]))) ∧ Below w.heap.size w w' := by
  have hl := hr.1
  have HR := hide_ hr
  have HL := hide_ hl
  have HWF := hide_ hwf
  have HBB := hide_ hB
  by_cases hbig : 64 < n
  · have d1 : decide ((64 : Int) < (n : Int)) = true := by simp; omega
    have HN := hide_ (show newD l = none by unfold newD; rw [if_pos (by omega)])
    clear hr hl hwf hB hbig
    go_enter Try.func11, Try.ntmps11
    go_wp2
    go_ret2
    exact ⟨.inr ⟨HN.out, rfl⟩, Below.refl _ _⟩
  · have d1 : decide ((64 : Int) < (n : Int)) = false := by simp; omega
    have HN := hide_ (show newD l = newFrom (.map []) l by unfold newD; rw [if_neg (by omega)])
    have HN64 := hide_ (show n ≤ 64 by omega)
    have hmm := @run_makeMap Try.prog
    have HBm : Hid (Below w.heap.size w ((w.alloc (.map #[] 0)).alloc (.cells #[.map (some w.heap.size)] 72))) := hide_ (((Below.refl _ _).alloc (Nat.le_refl _) _).alloc (by simp) _)
    have HK : Hid (Blk ((w.alloc (.map #[] 0)).alloc (.cells #[.map (some w.heap.size)] 72)) (w.heap.size + 1) 72 #[.map (some w.heap.size)]) := hide_ (by
      have h := Blk.new (w.alloc (.map #[] 0)) 72 #[.map (some w.heap.size)]
      rw [World.size_alloc] at h
      exact h)
    have HO : Hid (mapAt ((w.alloc (.map #[] 0)).alloc (.cells #[.map (some w.heap.size)] 72)) w.heap.size 0 (.map [])) := hide_ ((World.ownsMap_made w Try.prog 39 (plainElem Try.prog 3)).alloc _)
    clear hr hl hwf hB hbig
    go_enter Try.func11, Try.ntmps11
    go_wp2
    go_loopw [17] (fun i wr => ∃ (k : Nat) (D : MD), k ≤ n ∧ i = .int .i64 k ∧ Blk wr (w.heap.size + 1) 72 #[.map (some w.heap.size)] ∧ mapAt wr w.heap.size k D ∧ newFrom (.map []) l = newFrom D (l.drop k) ∧ Below w.heap.size w wr) (fun i _ => n - (intOf i).toNat)
    case atStart => exact ⟨0, _, Nat.zero_le _, rfl, HK.out, HO.out, rfl, HBm.out⟩
    case round =>
      clear HK HO HBm
      obtain ⟨k, D, hk, rfl, hq, hm, hn, hb⟩ := hrel
      by_cases hlt : k < n
      · have hkl : k < l.length := by rw [HL.out]; exact hlt
        obtain ⟨⟨x, a⟩, hx⟩ : ∃ t, l[k]? = some t := ⟨_, List.getElem?_eq_getElem hkl⟩
        obtain ⟨ad, rfl, hab, hc⟩ := (HR.out.below (hb.mono HBB.out)).2 (by omega)
        obtain ⟨c0, c1⟩ := hc k x a hx
        obtain ⟨wx, wa⟩ := HWF.out _ (List.mem_of_getElem? hx)
        simp only at wx wa
        have hstep : newFrom (.map []) l = if badG D x a then none else newFrom (putG D x a) (l.drop (k + 1)) := by
          rw [hn, List.drop_eq_getElem_cons hkl]
          rw [List.getElem?_eq_getElem hkl] at hx
          rw [Option.some.inj hx]
          rfl
        have HST := hide_ hstep
        have hbk : (ad.add (k * 2)).block < wr.heap.size := by rw [block_of_add]; have := hb.size; have := HBB.out; omega
        have hb2 := hb.alloc hb.size (.cells #[.int .u32 x, .int .i64 a] 68)
        have hq2 := hq.alloc (.cells #[.int .u32 x, .int .i64 a] 68)
        have hm2 : mapAt (wr.alloc (.cells #[.int .u32 x, .int .i64 a] 68)) w.heap.size k D := hm.alloc _
        have hk2 := Blk.new wr 68 #[.int .u32 x, .int .i64 a]
        have HB2 := hide_ hb2
        have HQ2 := hide_ hq2
        have HM2 := hide_ hm2
        have HK2 := hide_ hk2
        obtain ⟨v, hv, _⟩ := val_ex hm2 x wx
        have HV := hide_ hv
        clear hb hq hm hn hb2 hq2 hm2 hk2 hstep hc hx hv hab
        go_wp2
        have p0 := HK2.out.cell 0
        have p1 := HK2.out.cell 1
        have pl := HK2.out.lt
        have q0 := HQ2.out.cell 0
        have ql := HQ2.out.lt
        have lk : ∀ N, (Instr.lookup 70 (.map (some w.heap.size)) (.int .u32 x) true).run Try.prog ((wr.alloc (.cells #[.int .u32 x, .int .i64 a] 68)).drewN N) = _ := fun N => look_run (HM2.out.drewN N) x v wx HV.out
        generalize (wr.alloc (.cells #[.int .u32 x, .int .i64 a] 68)) = w5 at p0 p1 pl q0 ql lk HB2 HQ2 HM2 HK2 ⊢
        go_quiet (fail)
        clear lk
        have HB6 : Hid (Below w.heap.size w (w5.drewN nq)) := hide_ (below_draws2 HB2.out nq)
        have p0 : (w5.drewN nq).cell? ⟨wr.heap.size, 0, none⟩ = some (.int .u32 x) := p0
        have p1 : (w5.drewN nq).cell? ⟨wr.heap.size, 1, none⟩ = some (.int .i64 a) := p1
        have pl : wr.heap.size < (w5.drewN nq).heap.size := pl
        have q0 : (w5.drewN nq).cell? ⟨w.heap.size + 1, 0, none⟩ = some (.map (some w.heap.size)) := q0
        have ql : w.heap.size + 1 < (w5.drewN nq).heap.size := ql
        have HQ6 : Hid (Blk (w5.drewN nq) (w.heap.size + 1) 72 #[.map (some w.heap.size)]) := hide_ (HQ2.out.drewN nq)
        have HM6 : Hid (mapAt (w5.drewN nq) w.heap.size k D) := hide_ (HM2.out.drewN nq)
        clear HB2 HQ2 HM2 HK2
        generalize w5.drewN nq = w6 at p0 p1 pl q0 ql HB6 HQ6 HM6 ⊢
        obtain ⟨hs, hhs⟩ : ∃ hs, hs = Maps.has D (kx x) := ⟨_, rfl⟩
        rw [← hhs]
        have hbad : badG D x a = (hs || decide (2147483647 < x) || decide (a < 0) || decide (15 < a)) := by rw [hhs]; rfl
        have HHS := hide_ hhs
        have HBAD := hide_ hbad
        clear hhs hbad
        by_cases hgood : hs = false ∧ decide (2147483647 < x) = false ∧ decide (a < 0) = false ∧ decide (15 < a) = false
        · obtain ⟨rfl, e1, e2, e3⟩ := hgood
          have HB0 := hide_ (show badG D x a = false by rw [HBAD.out, e1, e2, e3]; rfl)
          go_wp2
          obtain ⟨w7, hrun, o7, g7⟩ := World.ownsMap.update (w := w6.drew) (HM6.out.drewN 1) K32 Try.underlying70 (show k < maxLen by have := HN64.out; unfold maxLen; omega) (keyOf_int_mk Try.underlying39 wx) (plainElem_int Try.underlying3 wa)
          go_region
          have hq7 : Blk w7 (w.heap.size + 1) 72 #[.map (some w.heap.size)] := (HQ6.out.drewN 1).grown g7 (by simp)
          have hb7 : Below w.heap.size w w7 := (below_draws2 HB6.out 1).grown g7 HB6.out.size (fun j hj => by cases hj; exact Nat.le_refl _)
          have HO7 := hide_ (show mapAt w7 w.heap.size (k + 1) (putG D x a) from o7)
          have HEND := hide_ (show newFrom (.map []) l = newFrom (putG D x a) (l.drop (k + 1)) by rw [HST.out, HB0.out]; rfl)
          have HQ7 := hide_ hq7
          have HB7 := hide_ hb7
          have hn64 := HN64.out
          clear o7 g7 hrun hq7 hb7
          go_wp2
          go_roundw
          case rel => exact ⟨k + 1, _, by omega, by go_num, HQ7.out, HO7.out, HEND.out, HB7.out⟩
          case measure => simp [intOf]; omega
        · have HEND := hide_ (show newD l = none by
            rw [HN.out, HST.out, if_pos]
            rw [HBAD.out]
            revert hgood
            cases hs <;> cases decide (2147483647 < x) <;> cases decide (a < 0) <;> cases decide (15 < a) <;> simp)
          have hways : hs = true ∨ (hs = false ∧ decide (2147483647 < x) = true) ∨ (hs = false ∧ decide (2147483647 < x) = false ∧ decide (a < 0) = true) ∨ (hs = false ∧ decide (2147483647 < x) = false ∧ decide (a < 0) = false ∧ decide (15 < a) = true) := by
            revert hgood
            cases hs <;> cases decide (2147483647 < x) <;> cases decide (a < 0) <;> cases decide (15 < a) <;> simp
          clear hgood
          rcases hways with rfl | ⟨rfl, e1⟩ | ⟨rfl, e1, e2⟩ | ⟨rfl, e1, e2, e3⟩
          all_goals
            go_wp2
            go_ret2
            exact ⟨.inr ⟨HEND.out, rfl⟩, HB6.out⟩
      · obtain rfl : k = n := by omega
        rw [List.drop_of_length_le (by rw [HL.out]; omega)] at hn
        have HQ := hide_ hq
        have q0 := hq.cell 0
        have ql := hq.lt
        have HEND := hide_ (show newD l = some D by rw [HN.out, hn]; rfl)
        have HB := hide_ hb
        have HM := hide_ hm
        clear hq hb hm hn
        go_wp2
        go_ret2
        exact ⟨.inl ⟨D, _, HEND.out, rfl, ⟨w.heap.size, k, q0, ql, by omega, HM.out, HN64.out⟩, gate_new q0 (Nat.le_succ _) (Nat.le_refl _)⟩, HB.out⟩
end Go.Proofs.Ytcfpclhoockcfaa
/-
  What a Shot reads as; MemBack for every Shot.
-/
namespace Go.Proofs.Ytcfpclhoockcfaa
set_option maxRecDepth 100000
open Go.RowKit

theorem six_of_len {α : Type} {l : List α} (h : l.length = 6) : ∃ a b c d e f, l = [a, b, c, d, e, f] := by
  match l, h with
  | [a, b, c, d, e, f], _ => exact ⟨a, b, c, d, e, f, rfl⟩
theorem c_u8 : Try.prog.cellsOf 5 = 1 := by kernel_rfl
theorem c_u8s : Try.prog.cellsOf 23 = 1 := by kernel_rfl
theorem c_u32 : Try.prog.cellsOf 39 = 1 := by kernel_rfl
theorem by_u8 : Try.prog.bytesOf 5 = 1 := by kernel_rfl
theorem wf_u8 {a : Int} (h : (Lit.int .u8 a).wf = true) : 0 ≤ a ∧ a < 256 := by
  simp [Lit.wf, IntKind.min, IntKind.max, IntKind.signed, IntKind.bits] at h
  omega
theorem wf_u16 {a : Int} (h : (Lit.int .u16 a).wf = true) : 0 ≤ a ∧ a < 65536 := by
  simp [Lit.wf, IntKind.min, IntKind.max, IntKind.signed, IntKind.bits] at h
  omega
theorem wf_u32 {a : Int} (h : (Lit.int .u32 a).wf = true) : 0 ≤ a ∧ a < 4294967296 := by
  simp [Lit.wf, IntKind.min, IntKind.max, IntKind.signed, IntKind.bits] at h
  omega
end Go.Proofs.Ytcfpclhoockcfaa
/-
  The walk of playpenlaw16.some.
-/
namespace Go.Proofs.Ytcfpclhoockcfaa
set_option maxRecDepth 100000
open Go.RowKit Go.Maps

def gCells (l : List (Int × Int)) : List Value := l.flatMap fun t => [.int .u32 t.1, .int .i64 t.2]
theorem gCells_len (l : List (Int × Int)) : (gCells l).length = l.length * 2 := by
  induction l with
  | nil => rfl
  | cons t r ih => unfold gCells at ih ⊢; rw [List.flatMap_cons, List.length_append, ih]; simp; omega
theorem gCells_snoc (l : List (Int × Int)) (x a : Int) : gCells (l ++ [(x, a)]) = gCells l ++ [.int .u32 x, .int .i64 a] := by simp [gCells]
theorem gCells_get (l : List (Int × Int)) {k : Nat} {t : Int × Int} (h : l[k]? = some t) : (gCells l)[k * 2]? = some (.int .u32 t.1) ∧ (gCells l)[k * 2 + 1]? = some (.int .i64 t.2) := by
  induction l generalizing k with
  | nil => simp at h
  | cons a r ih =>
    cases k with
    | zero =>
      have e : a = t := by simpa using h
      subst e
      exact ⟨rfl, rfl⟩
    | succ k =>
      have := ih (k := k) (by simpa using h)
      unfold gCells at this ⊢
      rw [List.flatMap_cons, show (k + 1) * 2 = k * 2 + 2 by omega, show k * 2 + 2 + 1 = (k * 2 + 1) + 2 by omega]
      simpa using this
theorem GReads.of_reads {w : World} {B n : Nat} {A : Option Addr} {l : List (Int × Int)} (h : Reads w B 2 A n (gCells l)) : GReads w B A n l := by
  refine ⟨by have := h.1; rw [gCells_len] at this; omega, fun hn => ?_⟩
  obtain ⟨ad, e, hlt, hj⟩ := h.2 hn
  refine ⟨ad, e, hlt, fun j x a hx => ?_⟩
  obtain ⟨g0, g1⟩ := gCells_get l hx
  refine ⟨hj _ _ g0, ?_⟩
  have e1 : ad.add (j * 2 + 1) = ⟨(ad.add (j * 2)).block, (ad.add (j * 2)).off + 1, none⟩ := by
    rw [← add_of_add]
    generalize ad.add (j * 2) = p
    unfold Addr.add
    simp
  rw [← e1]
  exact hj _ _ g1
def hasNum (l : List (Int × Int)) (x : Int) : Bool := l.any (fun t => t.1 == x)
def someStep (l : List (Int × Int)) (x : Int) : List (Int × Int) := if hasNum l (x % 2147483648) then l else l ++ [(x % 2147483648, x % 16)]
def someFrom : List (Int × Int) → List Int → List (Int × Int)
  | l, [] => l
  | l, x :: r => if l.length < 60 then someFrom (someStep l x) r else l
/-- grants that may be, each number once -/
structure SomeOk (l : List (Int × Int)) : Prop where
  few : l.length ≤ 60
  once : l.Pairwise fun s t => s.1 ≠ t.1
  ok : ∀ t ∈ l, (0 ≤ t.1 ∧ t.1 ≤ 2147483647) ∧ 0 ≤ t.2 ∧ t.2 ≤ 15
theorem hasNum_false {l : List (Int × Int)} {x : Int} (h : hasNum l x = false) : ∀ t ∈ l, t.1 ≠ x := by
  intro t ht e
  unfold hasNum at h
  rw [List.any_eq_false] at h
  exact h t ht (by simpa using e)
theorem someStep_ok {l : List (Int × Int)} (h : SomeOk l) (hl : l.length < 60) (x : Int) : SomeOk (someStep l x) := by
  unfold someStep
  cases hh : hasNum l (x % 2147483648) with
  | true => exact h
  | false =>
    simp only [Bool.false_eq_true, if_false]
    refine ⟨by simp; omega, ?_, fun t ht => ?_⟩
    · rw [List.pairwise_append]
      refine ⟨h.once, List.pairwise_singleton _ _, fun s hs t ht => ?_⟩
      rw [List.mem_singleton.1 ht]
      exact hasNum_false hh s hs
    · rcases List.mem_append.1 ht with ht | ht
      · exact h.ok t ht
      · rw [List.mem_singleton.1 ht]
        simp only
        omega
def putAll (D : MD) (l : List (Int × Int)) : MD := l.foldl (fun D t => putG D t.1 t.2) D
theorem kx_inj {x y : Int} (h : kx x = kx y) : x = y := congrArg (fun d : Lit => match d with | .int _ a => a | _ => 0) h
theorem newFrom_ok : ∀ (l : List (Int × Int)) (D : MD), (∀ t ∈ l, Maps.has D (kx t.1) = false) → l.Pairwise (fun s t => s.1 ≠ t.1) → (∀ t ∈ l, (0 ≤ t.1 ∧ t.1 ≤ 2147483647) ∧ 0 ≤ t.2 ∧ t.2 ≤ 15) → newFrom D l = some (putAll D l)
  | [], _, _, _, _ => rfl
  | (x, a) :: r, D, h1, h2, h3 => by
    obtain ⟨⟨_, x1⟩, a0, a1⟩ := h3 (x, a) (by simp)
    simp only at x1 a0 a1
    have hb : badG D x a = false := by
      unfold badG
      rw [h1 (x, a) (by simp)]
      simp only [Bool.false_or, Bool.or_eq_false_iff, decide_eq_false_iff_not]
      omega
    rw [newFrom, hb]
    simp only [Bool.false_eq_true, if_false]
    obtain ⟨p1, p2⟩ := List.pairwise_cons.1 h2
    refine newFrom_ok r (putG D x a) (fun t ht => ?_) p2 (fun t ht => h3 t (by simp [ht]))
    unfold putG
    rw [Maps.has_put_other (fun e => p1 t ht (kx_inj e).symm)]
    exact h1 t (by simp [ht])
theorem newD_ok {l : List (Int × Int)} (h : SomeOk l) : newD l = some (putAll (.map []) l) := by
  unfold newD
  rw [if_neg (by have := h.few; omega)]
  exact newFrom_ok l _ (fun _ _ => rfl) h.once h.ok
theorem wf_u32_of {x : Int} (h0 : 0 ≤ x) (h1 : x < 4294967296) : (Lit.int .u32 x).wf = true := by
  simp [Lit.wf, IntKind.min, IntKind.max, IntKind.signed, IntKind.bits]
  omega
theorem wf_i64_of {x : Int} (h0 : -9223372036854775808 ≤ x) (h1 : x < 9223372036854775808) : (Lit.int .i64 x).wf = true := by
  simp [Lit.wf, IntKind.min, IntKind.max, IntKind.signed, IntKind.bits]
  omega
theorem grant_info : (Try.prog.info? 68).map (fun i => (i.zero, i.size, i.bytes)) = some (some (.agg #[.int .u32 0, .int .i64 0]), 2, 16) := by kernel_rfl
def gRow (A : Option Addr) (l : List (Int × Int)) (c : Nat) : Ro := ⟨68, 2, .slice A l.length c, l.length, gCells l⟩
theorem u32s_get {xs : List Int} {j : Nat} (h : j < xs.length) : (u32s xs)[j]? = some (.int .u32 (xs[j]?.getD 0)) := by
  rw [List.getElem?_map, List.getElem?_eq_getElem h]
  rfl
end Go.Proofs.Ytcfpclhoockcfaa
/-
  The walks of gate's Granted, playpenkit.SameGrants; the plain law of Grants.
-/
namespace Go.Proofs.Ytcfpclhoockcfaa
set_option maxRecDepth 100000
open Go.RowKit Go.Maps

theorem Granted_any (q : Nat) (D : MD) (x : Int) (w : World) (h : GateAt w q D) (hx : (Lit.int .u32 x).wf = true) :
    Calls Try.prog 17 #[.pointer (some ⟨q, 0, none⟩), .int .u32 x] w fun e w' => ∃ c, e = .returned (.tuple #[.int .i64 c, .bool (Maps.has D (kx x))]) ∧ D.atKey (kx x) z0 = .lit (.int .i64 c) ∧ w' = w := by
  obtain ⟨m, n, c1, l1, s1, o1, _⟩ := h
  have g1 := gmade_any q m w c1
  obtain ⟨c, hc, hwc⟩ := val_ex o1 x hx
  have hlk := look_run o1 x c hx hc
  have HC := hide_ hc
  clear hc o1 hwc
  go_enter Try.func17, Try.ntmps17
  go_wp2_with fail
  refine g1.mono ?_
  rintro e w' ⟨rfl, hw⟩
  subst w'
  go_wp2
  go_ret2
  exact ⟨c, rfl, HC.out, rfl⟩

/-! ### Grants -/
/-- a list of grants, rising by number, that tells what the gate grants -/
structure Told (D : MD) (l : List (Int × Int)) : Prop where
  sorted : l.Pairwise fun s t => s.1 < t.1
  ok : ∀ t ∈ l, (Lit.int .u32 t.1).wf = true ∧ (Lit.int .i64 t.2).wf = true ∧ Maps.has D (kx t.1) = true ∧ D.atKey (kx t.1) z0 = .lit (.int .i64 t.2)
  all : ∀ x, (Lit.int .u32 x).wf = true → Maps.has D (kx x) = true → ∃ a, (x, a) ∈ l
/-- what the round has gathered -/
structure Gathered (D : MD) (left : Lit → Bool) (l : List (Int × Int)) : Prop where
  once : l.Pairwise fun s t => s.1 ≠ t.1
  ok : ∀ t ∈ l, (Lit.int .u32 t.1).wf = true ∧ (Lit.int .i64 t.2).wf = true ∧ Maps.has D (kx t.1) = true ∧ D.atKey (kx t.1) z0 = .lit (.int .i64 t.2)
  gone : ∀ t ∈ l, left (kx t.1) = false
  all : ∀ x, (Lit.int .u32 x).wf = true → Maps.has D (kx x) = true → left (kx x) = false → ∃ a, (x, a) ∈ l
theorem Gathered.next {D : MD} {left : Lit → Bool} {l : List (Int × Int)} (h : Gathered D left l) {x c : Int} (hwx : (Lit.int .u32 x).wf = true) (hwc : (Lit.int .i64 c).wf = true) (hl : left (.int .u32 x) = true) (hat : ∀ zd, D.atKey (.int .u32 x) zd = .lit (.int .i64 c)) :
    Gathered D (fun z => left z && !z.sameKey (.int .u32 x)) (l ++ [(x, c)]) := by
  refine ⟨?_, fun t ht => ?_, fun t ht => ?_, fun y hy hhas hgone => ?_⟩
  · rw [List.pairwise_append]
    refine ⟨h.once, List.pairwise_singleton _ _, fun s hs t ht => ?_⟩
    rw [List.mem_singleton.1 ht]
    intro e
    have := h.gone s hs
    have e' : s.1 = x := e
    rw [e'] at this
    have h2 : left (kx x) = true := hl
    rw [h2] at this
    cases this
  · rcases List.mem_append.1 ht with ht | ht
    · exact h.ok t ht
    · rw [List.mem_singleton.1 ht]
      exact ⟨hwx, hwc, has_true_of_atKey hat, hat z0⟩
  · rcases List.mem_append.1 ht with ht | ht
    · simp only [h.gone t ht, Bool.false_and]
    · rw [List.mem_singleton.1 ht]
      have : (kx x).sameKey (.int .u32 x) = true := by simp [kx, Lit.sameKey]
      simp only [this, Bool.not_true, Bool.and_false]
  · by_cases hl2 : left (kx y) = false
    · obtain ⟨a, ha⟩ := h.all y hy hhas hl2
      exact ⟨a, List.mem_append_left _ ha⟩
    · have hs : (kx y).sameKey (.int .u32 x) = true := by
        revert hgone hl2
        simp only [Bool.and_eq_false_imp, Bool.not_eq_false']
        exact fun h3 hl => h3 (by simpa using hl)
      have e := WideAt.sameKey_eq hs
      have e2 : y = x := congrArg (fun d : Lit => match d with | .int _ a => a | _ => 0) e
      subst e2
      exact ⟨c, by simp⟩
theorem sorted_told {D : MD} {l l' : List (Int × Int)} {left : Lit → Bool} (h : Gathered D left l) (hl : ∀ kl, left kl = false) (hp : l'.Perm l) (hs : l'.Pairwise fun s t => s.1 ≤ t.1) : Told D l' := by
  have hno : l'.Pairwise fun s t => s.1 ≠ t.1 := (hp.pairwise_iff (fun {a b} hab => Ne.symm hab)).2 h.once
  refine ⟨?_, fun t ht => h.ok t (hp.mem_iff.1 ht), fun x hx hh => ?_⟩
  · rw [List.pairwise_iff_getElem] at hno hs ⊢
    intro i j hi hj hij
    have h1 := hno i j hi hj hij
    have h2 := hs i j hi hj hij
    omega
  · obtain ⟨a, ha⟩ := h.all x hx hh (hl _)
    exact ⟨a, hp.mem_iff.2 ha⟩
theorem grant_eq (w : World) (x a y b : Int) : (binOp .neq 68 (.agg #[.int .u32 x, .int .i64 a]) (.agg #[.int .u32 y, .int .i64 b])).run Try.prog w = .ok (.bool (!decide ((x, a) = (y, b)))) w := by
  rw [run_neq_struct, run_equalIn_agg _ _ _ _ _ (by kernel_rfl) (by kernel_rfl)]
  have h := @Try.underlying68
  simp only [go_sem, h]
  simp
  go_simp
  by_cases hx : x = y <;> by_cases ha : a = b <;> simp [hx, ha]
theorem take_eq {α : Type} {xs ys : List α} {k : Nat} {x y : α} (hx : xs[k]? = some x) (hy : ys[k]? = some y) (h : xs.take k = ys.take k) : (x = y ↔ xs.take (k + 1) = ys.take (k + 1)) := by
  rw [List.take_add_one, List.take_add_one, hx, hy, h]
  simp
set_option maxHeartbeats 400000 in
theorem SameGrants_any (A A' : Option Addr) (n c n' c' : Nat) (xs ys : List (Int × Int)) (B : Nat) (w : World) (ha : GReads w B A n xs) (hb : GReads w B A' n' ys) (hB : B ≤ w.heap.size) (hn : n ≤ 140737488351232) (hn' : n' ≤ 140737488351232) :
    Calls Try.prog 26 #[.slice A n c, .slice A' n' c'] w fun e w' => e = .returned (.bool (decide (xs = ys))) ∧ ∃ nq, w' = w.drewN nq := by
  have la : xs.length = n := ha.1
  have lb : ys.length = n' := hb.1
  by_cases hne : n = n'
  · subst hne
    have h0 : ((n : Int) != (n : Int)) = false := by simp
    have HA := hide_ ha
    have HB := hide_ hb
    have HL := hide_ (show xs.length = n ∧ ys.length = n from ⟨la, lb⟩)
    have HBB := hide_ hB
    clear ha hb la lb hB
    go_enter Try.func26, Try.ntmps26
    go_wp2
    go_loopw [5] (fun i wr => ∃ k : Nat, k ≤ n ∧ i = .int .i64 k ∧ Hid (xs.take k = ys.take k) ∧ ∃ nq, wr = w.drewN nq) (fun i _ => n - (intOf i).toNat)
    case atStart => exact ⟨0, Nat.zero_le _, rfl, hide_ (by simp), 0, rfl⟩
    case round =>
      obtain ⟨k, hk, rfl, HE, nq, rfl⟩ := hrel
      by_cases hlt : k < n
      · obtain ⟨⟨x, a⟩, hx⟩ : ∃ t, xs[k]? = some t := ⟨_, List.getElem?_eq_getElem (by have := HL.out.1; omega)⟩
        obtain ⟨⟨y, b⟩, hy⟩ : ∃ t, ys[k]? = some t := ⟨_, List.getElem?_eq_getElem (by have := HL.out.2; omega)⟩
        obtain ⟨ad, rfl, hbk, hc⟩ := HA.out.2 (by omega)
        obtain ⟨ad', rfl, hbk', hc'⟩ := HB.out.2 (by omega)
        obtain ⟨c0, c1⟩ := hc k x a hx
        obtain ⟨c2, c3⟩ := hc' k y b hy
        have hbs : (ad.add (k * 2)).block < w.heap.size := by rw [block_of_add]; have := HBB.out; omega
        have hbs' : (ad'.add (k * 2)).block < w.heap.size := by rw [block_of_add]; have := HBB.out; omega
        have H := hide_ (take_eq hx hy HE.out)
        clear hc hc' hx hy hbk hbk'
        have hq := fun w => grant_eq w x a y b
        by_cases he : (x, a) = (y, b)
        · rw [decide_eq_true he] at hq
          have H2 := hide_ (H.out.1 he)
          clear he H
          go_wp2
          go_quiet (fail)
          go_wp2
          go_roundw
          case rel => exact ⟨k + 1, by omega, by go_num, H2, _, rfl⟩
          case measure => simp [intOf]; omega
        · rw [decide_eq_false he] at hq
          have H2 := hide_ (show xs ≠ ys from fun e => he (H.out.2 (by rw [e])))
          clear he H
          go_wp2
          go_quiet (fail)
          go_wp2
          go_ret
          exact ⟨by simp [H2.out], _, World.drewN_drewN _ _ _⟩
      · obtain rfl : k = n := by omega
        have h2 := HE.out
        rw [List.take_of_length_le (by have := HL.out.1; omega), List.take_of_length_le (by have := HL.out.2; omega)] at h2
        have H2 := hide_ h2
        clear h2
        go_wp2
        go_ret
        exact ⟨by simp [H2.out], nq, rfl⟩
  · have h0 : ((n : Int) != (n' : Int)) = true := by simp; omega
    have H := hide_ (show xs ≠ ys by rintro rfl; omega)
    clear ha hb la lb hne
    go_enter Try.func26, Try.ntmps26
    go_wp2
    go_ret
    exact ⟨by simp [H.out], 0, rfl⟩
end Go.Proofs.Ytcfpclhoockcfaa
