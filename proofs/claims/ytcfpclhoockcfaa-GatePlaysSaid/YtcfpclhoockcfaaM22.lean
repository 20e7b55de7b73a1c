/-
  A row behind slices.SortFunc: a row that the call owns, sorted where it lies.
-/
import Derived.Shelf.SlSortCmp.WholeK
import Derived.Test.YtcfpclhoockcfaaM12
import Derived.Shelf.SlGeneric
import Derived.Ground.SlsfProg
import Derived.Test.YtcfpclhoockcfaaProg
import Derived.Shelf.SlSortCmp.NoneTotal
namespace Go.Proofs.Ytcfpclhoockcfaa
set_option maxRecDepth 100000
open Go.RowKit Go.Sort Go.Shelf Go.Lib
set_option linter.unusedVariables false

section
variable {α : Type} [Inhabited α] {enc : α → List Value} {k : Nat}
theorem flatK_get (d : Array α) {t : Nat} (h : t < d.size * k) : (flatK enc k d)[t]? = some (enc d[t / k]!)[t % k]! := by
  have h1 := get_flatK enc k d t h
  rw [getElem!_pos _ t (by rw [size_flatK]; exact h)] at h1
  rw [Array.getElem?_eq_getElem (by rw [size_flatK]; exact h), h1]
theorem holds_of_own {w : World} {B g n c : Nat} {e : TypeId} {d : Array α} (h : w.ownsRow B e k (.slice (some ⟨g, 0, none⟩) n c) n (flatK enc k d).toList) : HoldsK enc k w g 0 d := by
  intro j hj
  rw [size_flatK] at hj
  have hg := flatK_get (enc := enc) d hj
  have h1 := h.cells (g := g) rfl j _ (by rw [Array.getElem?_toList]; exact hg)
  have e1 : (⟨g, 0, none⟩ : Addr).add j = ⟨g, j, none⟩ := by unfold Addr.add; split <;> simp_all
  rw [e1] at h1
  rw [get_flatK _ _ _ _ hj, Nat.zero_add]
  refine ⟨h1, ?_⟩
  rcases h.2 with ⟨h2, _⟩ | ⟨g', cap, cur, hv, _, hgg, _⟩
  · cases h2
  · injection hv with hv _ _
    injection hv with hv
    injection hv with hv
    subst hv
    simp [World.frozen?, hgg]
theorem ownsRow_sorted {w : World} {B g n c : Nat} {e : TypeId} {d d' : Array α} (h : w.ownsRow B e k (.slice (some ⟨g, 0, none⟩) n c) n (flatK enc k d).toList) (hn : n = d.size) (hs : d'.size = d.size) (m : Nat) (os : Array Obj) :
    (sortWorldK enc k w g 0 m d' os).ownsRow B e k (.slice (some ⟨g, 0, none⟩) n c) n (flatK enc k d').toList := by
  refine ⟨by simp [hn, hs], ?_⟩
  rcases h.2 with ⟨h2, _⟩ | ⟨g', cap, cur, hv, hB, hg, hnc, hcm, hcs, htk⟩
  · cases h2
  · injection hv with hv _ hv3
    injection hv with hv
    injection hv with hv
    subst hv hv3
    refine .inr ⟨g, c, putCells id 0 (flatK enc k d') cur, rfl, hB, ?_, hnc, hcm, by simp [putCells, hcs], ?_⟩
    · have hlt : g < w.heap.size := (Array.getElem?_eq_some_iff.1 hg).1
      unfold sortWorldK
      rw [heap_grow_old _ _ (by rw [size_putRowK]; exact hlt)]
      simp only [putRowK, putRow, mapBlock, Sort.ahead, Array.getElem?_modify, if_true, hg, Option.map_some, onCells]
    · have hl : n * k ≤ cur.size := by rw [hcs]; exact Nat.mul_le_mul_right k hnc
      apply List.ext_getElem?
      intro j
      rw [List.getElem?_take]
      by_cases hj : j < n * k
      · rw [if_pos hj, Array.getElem?_toList, Array.getElem?_toList]
        have hj' : j < d'.size * k := by rw [hs, ← hn]; exact hj
        rw [flatK_get d' hj']
        have hjc : j < cur.size := by omega
        simp only [putCells, Array.getElem?_mapIdx, Array.getElem?_eq_getElem hjc, Option.map_some, size_flatK, Nat.zero_le, Nat.zero_add, true_and, Nat.sub_zero, id]
        rw [if_pos hj', get_flatK _ _ _ _ hj']
      · rw [if_neg hj, List.getElem?_eq_none (by simp [hs, ← hn]; omega)]
theorem grown_sorted (w : World) (g m : Nat) (d' : Array α) (os : Array Obj) (hg : g < w.heap.size) : w.grownBy (sortWorldK enc k w g 0 m d' os) (some g) := by
  refine ⟨rfl, rfl, rfl, by unfold sortWorldK; rw [size_grow, size_putRowK]; exact Nat.le_add_right _ _, fun j hj hne => ?_⟩
  unfold sortWorldK
  rw [heap_grow_old _ _ (by rw [size_putRowK]; exact hj)]
  simp only [putRowK, putRow, mapBlock, Sort.ahead, Array.getElem?_modify]
  rw [if_neg (fun e => hne (by rw [e]))]
end

/-! ### grants, sorted by number: as a word of 32 bits and a number -/
abbrev GU := UInt32 × Int
def ofU (t : GU) : Int × Int := ((t.1.toNat : Int), t.2)
def toU (t : Int × Int) : GU := (UInt32.ofNat t.1.toNat, t.2)
def encU (t : GU) : List Value := [.int .u32 (ofU t).1, .int .i64 (ofU t).2]
theorem ofU_toU {t : Int × Int} (h0 : 0 ≤ t.1) (h1 : t.1 < 4294967296) : ofU (toU t) = t := by
  obtain ⟨x, a⟩ := t
  simp only at h0 h1
  obtain ⟨n, rfl⟩ := Int.eq_ofNat_of_zero_le h0
  have hn : n < 4294967296 := by omega
  simp only [ofU, toU, Int.toNat_natCast, UInt32.toNat_ofNat', Prod.mk.injEq, and_true]
  omega
theorem ofU_bd (t : GU) : 0 ≤ (ofU t).1 ∧ (ofU t).1 < 4294967296 := by
  have h := t.1.toNat_lt
  show 0 ≤ (t.1.toNat : Int) ∧ (t.1.toNat : Int) < 4294967296
  omega
theorem flatU (d : Array GU) : (flatK encU 2 d).toList = gCells (d.toList.map ofU) := by
  apply List.ext_getElem?
  intro j
  rw [Array.getElem?_toList]
  by_cases hj : j < d.size * 2
  · rw [flatK_get (enc := encU) (k := 2) d hj]
    have hj2 : j / 2 < d.size := by omega
    have ht : (d.toList.map ofU)[j / 2]? = some (ofU d[j / 2]!) := by
      rw [List.getElem?_map, Array.getElem?_toList, getElem!_pos d _ hj2, Array.getElem?_eq_getElem hj2]
      rfl
    obtain ⟨g0, g1⟩ := gCells_get _ ht
    rcases Nat.mod_two_eq_zero_or_one j with h2 | h2
    · rw [show j / 2 * 2 = j by omega] at g0
      rw [h2, g0]
      rfl
    · rw [show j / 2 * 2 + 1 = j by omega] at g1
      rw [h2, g1]
      rfl
  · rw [Array.getElem?_eq_none (by simp; omega), List.getElem?_eq_none (by rw [gCells_len]; simp; omega)]
def cfU (a b : GU) : Int := (ofU a).1 - (ofU b).1
theorem ltU (a b : GU) : ltOf cfU a b = decide ((ofU a).1 < (ofU b).1) := by
  unfold ltOf cfU
  by_cases h : (ofU a).1 < (ofU b).1
  · rw [decide_eq_true h]; simp; omega
  · rw [decide_eq_false h]; simp; omega
theorem swoU : SWO (ltOf cfU) where
  irrefl x := by rw [ltU]; simp
  trans x y z h1 h2 := by rw [ltU] at *; simp at *; omega
  ntrans x y z h1 h2 := by rw [ltU] at *; simp at *; omega
end Go.Proofs.Ytcfpclhoockcfaa
/-
  DERIVED: THE SHELF's CONTRACTS AT THIS DUMP, IN PLAIN WORDS (tools/lay-plain.mjs out of 'TryShelf.lean', which tools/lay-shelf.mjs wrote): THE SAME DECLARATIONS UNDER THE SAME NAMES: 'import', 'namespace', 'open', 'def', 'theorem' AND NOTHING ELSE: no command of the shelf's: FOR A HAND-IN. Each laying: the table of numbers ('.._ren') and one theorem, a field a fact of the dump's own or the kernel's comparison; each contract: ONE APPLICATION.
-/
namespace Go.Proofs
open Go.Shelf
def Try.sortG_ren : Go.Shelf.Ren := ⟨fun | 6 => 48 | 15 => 62 | 14 => 61 | 28 => 75 | 29 => 76 | 20 => 67 | 21 => 68 | 22 => 69 | 23 => 70 | 24 => 71 | 25 => 72 | 26 => 73 | 27 => 74 | 46 => 82 | 47 => 83 | 48 => 84 | 49 => 85 | 50 => 86 | 57 => 87 | n => n, fun | 22 => 22 | 24 => 68 | 25 => 99 | 3 => 3 | 39 => 110 | 0 => 0 | 53 => 39 | 55 => 124 | 4 => 4 | 46 => 117 | 45 => 116 | 50 => 61 | 5 => 5 | 9 => 9 | 66 => 129 | 70 => 133 | 76 => 137 | 77 => 138 | n => n, fun | n => n⟩
theorem Try.sortG : Go.Proofs.SlLaysF0.n6 Try.prog Try.sortG_ren := {
  mixed := by kernel_rfl
  f6 := ⟨Try.f48.name, by decide, Try.func48.trans (congrArg some (by kernel_rfl))⟩
  f14 := ⟨Try.f61.name, by decide, Try.func61.trans (congrArg some (by kernel_rfl))⟩
  f15 := Try.func62.trans (congrArg some (by kernel_rfl))
  f20 := ⟨Try.f67.name, by decide, Try.func67.trans (congrArg some (by kernel_rfl))⟩
  f21 := ⟨Try.f68.name, by decide, Try.func68.trans (congrArg some (by kernel_rfl))⟩
  f22 := ⟨Try.f69.name, by decide, Try.func69.trans (congrArg some (by kernel_rfl))⟩
  f23 := ⟨Try.f70.name, by decide, Try.func70.trans (congrArg some (by kernel_rfl))⟩
  f24 := ⟨Try.f71.name, by decide, Try.func71.trans (congrArg some (by kernel_rfl))⟩
  f25 := ⟨Try.f72.name, by decide, Try.func72.trans (congrArg some (by kernel_rfl))⟩
  f26 := ⟨Try.f73.name, by decide, Try.func73.trans (congrArg some (by kernel_rfl))⟩
  f27 := ⟨Try.f74.name, by decide, Try.func74.trans (congrArg some (by kernel_rfl))⟩
  f28 := Try.func75.trans (congrArg some (by kernel_rfl))
  f29 := Try.func76.trans (congrArg some (by kernel_rfl))
  f46 := ⟨Try.f82.name, by decide, Try.func82.trans (congrArg some (by kernel_rfl))⟩
  f47 := Try.func83.trans (congrArg some (by kernel_rfl))
  f48 := Try.func84.trans (congrArg some (by kernel_rfl))
  f49 := ⟨Try.f85.name, by decide, Try.func85.trans (congrArg some (by kernel_rfl))⟩
  f50 := ⟨Try.f86.name, by decide, Try.func86.trans (congrArg some (by kernel_rfl))⟩
  f57 := ⟨Try.f87.name, by decide, Try.func87.trans (congrArg some (by kernel_rfl))⟩
  t0 := Try.underlying0
  a0 := Try.isAgg0
  z0 := Try.sizeOf0
  v0 := Try.zeroValue0
  t3 := Try.underlying3
  a3 := Try.isAgg3
  z3 := Try.sizeOf3
  v3 := Try.zeroValue3
  t4 := Try.underlying4
  a4 := Try.isAgg4
  z4 := Try.sizeOf4
  v4 := Try.zeroValue4
  t5 := Try.underlying5
  a5 := Try.isAgg5
  z5 := Try.sizeOf5
  v5 := Try.zeroValue5
  t9 := Try.underlying9
  a9 := Try.isAgg9
  z9 := Try.sizeOf9
  v9 := Try.zeroValue9
  t22 := Try.underlying22
  a22 := Try.isAgg22
  z22 := Try.sizeOf22
  v22 := Try.zeroValue22
  t25 := Try.underlying99
  a25 := Try.isAgg99
  z25 := Try.sizeOf99
  v25 := Try.zeroValue99
  t39 := Try.underlying110
  a39 := Try.isAgg110
  z39 := Try.sizeOf110
  v39 := Try.zeroValue110
  t45 := Try.underlying116
  a45 := Try.isAgg116
  z45 := Try.sizeOf116
  v45 := Try.zeroValue116
  t46 := Try.underlying117
  a46 := Try.isAgg117
  z46 := Try.sizeOf117
  v46 := Try.zeroValue117
  t50 := Try.underlying61
  a50 := Try.isAgg61
  z50 := Try.sizeOf61
  v50 := Try.zeroValue61
  t53 := Try.underlying39
  a53 := Try.isAgg39
  z53 := Try.sizeOf39
  v53 := Try.zeroValue39
  t55 := Try.underlying124
  a55 := Try.isAgg124
  z55 := Try.sizeOf124
  v55 := Try.zeroValue124
  t66 := Try.underlying129
  a66 := Try.isAgg129
  z66 := Try.sizeOf129
  v66 := Try.zeroValue129
  t70 := Try.underlying133
  a70 := Try.isAgg133
  z70 := Try.sizeOf133
  v70 := Try.zeroValue133
  t76 := Try.underlying137
  a76 := Try.isAgg137
  z76 := Try.sizeOf137
  v76 := Try.zeroValue137
  t77 := Try.underlying138
  a77 := Try.isAgg138
  z77 := Try.sizeOf138
  v77 := Try.zeroValue138 }
end Go.Proofs
/-
  The walk of gate's Grants.
-/
namespace Go.Proofs.Ytcfpclhoockcfaa
open Go.RowKit Go.Maps
set_option linter.unusedVariables false

theorem run_cmp (a b : GU) (W : World) : Calls Try.prog 49 #[.agg (encU a).toArray, .agg (encU b).toArray] W fun e w' => e = .returned (.int .i64 (cfU a b)) ∧ ∃ q os, w' = Go.Sort.grow (W.drewN q) os := by
  obtain ⟨a0, a1⟩ := ofU_bd a
  obtain ⟨b0, b1⟩ := ofU_bd b
  unfold encU cfU
  generalize (ofU a).1 = x at a0 a1 ⊢
  generalize (ofU b).1 = x' at b0 b1 ⊢
  generalize (ofU a).2 = y
  generalize (ofU b).2 = y'
  have s1 : IntKind.i64.wrap (x - x') = x - x' := IntWalk.i64_in _ (by omega)
  go_enter Try.func49, Try.ntmps49
  go_wp2
  go_ret
  exact ⟨by simp, 0, _, by rw [Go.Sort.alloc_eq_grow, Go.Sort.alloc_eq_grow, Go.Sort.grow_grow]; rfl⟩
/-- the sort, of a row of grants that the call owns -/
theorem sort_any (A : Option Addr) (c B : Nat) (l : List (Int × Int)) (W : World) (h : W.ownsRow B 68 2 (.slice A l.length c) l.length (gCells l)) (hwf : ∀ t ∈ l, (Lit.int .u32 t.1).wf = true) (hl : l.length ≤ 64) (cb : Nat) (hB : B ≤ W.heap.size) :
    Calls Try.prog 48 #[.slice A l.length c, .func (.func 49) #[] #[]] W fun e W' => e = .returned (.tuple #[]) ∧ ∃ l' : List (Int × Int), l'.Perm l ∧ (l'.Pairwise fun s t => s.1 ≤ t.1) ∧
      W'.ownsRow B 68 2 (.slice A l.length c) l.length (gCells l') ∧ Below B W W' := by
  rcases Nat.eq_zero_or_pos l.length with h0 | h0
  · obtain rfl := List.eq_nil_of_length_eq_zero h0
    have hS := AnyF.slices_SortFunc_none (P := Try.prog) (ρ := Try.sortG_ren) { Try.sortG with } A c (.func (.func 49) #[] #[]) W
    refine hS.mono ?_
    rintro e W' ⟨rfl, rfl⟩
    exact ⟨rfl, [], .refl _, List.Pairwise.nil, h, Below.refl _ _⟩
  · obtain ⟨g, c', hv⟩ := ownsRow_some h h0
    injection hv with hv _ _
    subst hv
    obtain ⟨d, hd⟩ : ∃ d : Array GU, d = (l.map toU).toArray := ⟨_, rfl⟩
    have hds : d.size = l.length := by rw [hd]; simp
    have hdl : d.toList.map ofU = l := by
      rw [hd, List.map_map]
      refine (List.map_congr_left fun t ht => ?_).trans (List.map_id l)
      obtain ⟨t0, t1⟩ := wf_u32 (hwf t ht)
      exact ofU_toU t0 t1
    have hown : W.ownsRow B 68 2 (.slice (some ⟨g, 0, none⟩) l.length c) l.length (Go.Sort.flatK encU 2 d).toList := by rw [flatU, hdl]; exact h
    have eg : ∀ args w, (callFunc 49 args).run Try.prog w = .ok (.enter 49 args) w := enters_of Try.func49 (by kernel_rfl) rfl
    have hlt : g < W.heap.size := (h.lt g rfl).2
    have hS := AnyQ.slices_SortFunc Try.sortG 2 Try.isAgg68 Try.sizeOf68 encU (fun _ => rfl) (fun x v hv => by simp [encU] at hv; rcases hv with rfl | rfl <;> rfl) cfU swoU 49 #[] g 0 c d W eg
      (fun m os dk _ x y => run_cmp x y _) (holds_of_own hown) hlt (by omega)
    rw [hds] at hS
    refine hS.mono ?_
    rintro e W' ⟨rfl, d', n, os, hp, hsd, rfl⟩
    have hs' : d'.size = d.size := hp.1
    refine ⟨rfl, d'.toList.map ofU, ?_, ?_, ?_, ?_⟩
    · have h2 := hp.2.2
      rw [Array.extract_eq_self_of_le (by omega), Array.extract_eq_self_of_le (by omega)] at h2
      have := h2.map ofU
      rwa [hdl] at this
    · rw [List.pairwise_map, List.pairwise_iff_getElem]
      intro i j hi hj hij
      have h3 := hsd i j (Nat.zero_le _) hij (by rw [Array.length_toList] at hj; omega)
      rw [ltU] at h3
      rw [Array.length_toList] at hi hj
      rw [getElem!_pos d' j hj, getElem!_pos d' i hi] at h3
      simp only [decide_eq_false_iff_not] at h3
      rw [Array.getElem_toList, Array.getElem_toList]
      omega
    · rw [← flatU]
      exact ownsRow_sorted hown hds.symm hs' n os
    · exact (Below.refl _ _).grown (grown_sorted W g n d' os hlt) hB (fun j hj => by cases hj; exact (h.lt g rfl).1)
set_option maxRecDepth 100000 in
theorem Grants_any (q : Nat) (D : MD) (w : World) (h : GateAt w q D) :
    Calls Try.prog 25 #[.pointer (some ⟨q, 0, none⟩)] w fun e w' => ∃ A l c, e = .returned (.slice A l.length c) ∧ Told D l ∧ w'.ownsRow w.heap.size 68 2 (.slice A l.length c) l.length (gCells l) ∧ Below w.heap.size w w' ∧ l.length ≤ 64 := by
  obtain ⟨i0, hi0, hz0, hz1, hz2⟩ := info_parts grant_info
  obtain ⟨m, n, c1, l1, s1, o1, n64⟩ := h
  have g1 := gmade_any q m w c1
  have hsz := o1.size_le
  obtain ⟨sz, hsz0⟩ : ∃ sz, sz = Maps.size D := ⟨_, rfl⟩
  have hs64 : sz ≤ 64 := by omega
  clear hsz n64
  go_enter Try.func25, Try.ntmps25
  go_wp2_with fail
  refine g1.mono ?_
  rintro e w' ⟨rfl, hw⟩
  subst w'
  go_wp2_with (first
    | (at_range; refine wpList_range_own _ rfl _ 70 rfl 39 3 K32 Try.underlying70 _ m n _ rfl o1 ?_; intro w0 hrg0 hg0 hs0)
    | go_in)
  rw [← hsz0] at hrg0
  clear hsz0 o1 g1
  go_frame
  go_loopw [3] (fun v wr => ∃ (left : Lit → Bool) (cnt : Nat) (A : Option Addr) (l : List (Int × Int)) (c : Nat), wr.ranges Try.prog 39 (plainElem Try.prog 3) m w.heap.size n D left cnt ∧ Below w.heap.size w wr ∧ v = .slice A l.length c ∧ Gathered D left l ∧ l.length + cnt ≤ 64 ∧ wr.ownsRow (w.heap.size + 1) 68 2 (.slice A l.length c) l.length (gCells l) ∧ w.heap.size < wr.heap.size) (fun _ wr => wr.rangeLeft m w.heap.size)
  case atStart => exact ⟨_, _, none, [], 0, hrg0, (Below.refl _ _).grown hg0 (Nat.le_refl _) (fun j hj => by cases hj), rfl, ⟨List.Pairwise.nil, by simp, by simp, fun x _ h1 h2 => by rw [h1] at h2; cases h2⟩, by simpa using hs64, World.ownsRow_nil _ _ _ _, by omega⟩
  case round =>
    clear hrg0 hg0 hs0
    obtain ⟨left, cnt, A, l, c, hrg, hb, rfl, hG, hlen, hown, hsz1⟩ := hrel
    have HG := hide_ hG
    have HB := hide_ hb
    obtain ⟨k, hk⟩ : ∃ k, k = l.length := ⟨_, rfl⟩
    rw [← hk] at hown hlen ⊢
    have HK := hide_ hk
    clear hG hb hk
    go_wp2_with (first
      | (at_next; refine wpList_next_ranges_ii _ rfl _ rfl 39 3 .u32 .i64 K32 Try.underlying39 Try.underlying3 m w.heap.size n _ _ _ rfl hrg ?_ ?_)
      | go_in)
    · intro _ hl0
      have hL0 := hide_ hl0
      have hsrt := sort_any A c (w.heap.size + 1) l wr (by rw [← HK.out]; exact hown) (fun t ht => (HG.out.ok t ht).1) (by rw [← HK.out]; omega) 0 (by omega)
      have HS := hide_ hsrt
      rw [← HK.out] at HS
      clear hl0 hsrt hown hrg
      go_wp2_with fail
      refine HS.out.mono ?_
      rintro e w2 ⟨rfl, l', hp, hs', hown2, hb2⟩
      have hlen2 := hp.length_eq
      rw [← HK.out] at hlen2
      have HT := hide_ (sorted_told HG.out hL0.out hp hs')
      have HO2 := hide_ hown2
      have HB2 := hide_ (HB.out.trans (hb2.mono (by omega)))
      have HL2 := hide_ hlen2
      clear hown2 hb2 hlen2 hp hs'
      go_wp2
      go_ret
      refine ⟨A, l', c, by rw [HL2.out]; rfl, HT.out, ?_, HB2.out, by rw [HL2.out]; omega⟩
      rw [HL2.out]
      have h3 := HO2.out
      refine ⟨h3.1, ?_⟩
      rcases h3.2 with h4 | ⟨g, cap, cur, hv, hg0, rest⟩
      · exact .inl h4
      · exact .inr ⟨g, cap, cur, hv, by omega, rest⟩
    · intro x c2 w1 cnt1 hwx hwc hlx hat hrg1 hlt hg1 hs1 hen
      have HG1 := hide_ (HG.out.next hwx hwc hlx hat)
      have hb1 : Below w.heap.size w w1 := HB.out.grown hg1 HB.out.size (fun j hj => by cases hj; exact Nat.le_refl _)
      have hO0 : Owns w1 (w.heap.size + 1) [⟨68, 2, .slice A k c, k, gCells l⟩] := ⟨fun r hr => by
        rw [List.mem_singleton.1 hr]
        refine hown.kept hg1 ?_
        rcases hown.2 with ⟨hn, _⟩ | ⟨g, cap, cur, hv, hg0, _⟩
        · rw [hn]; exact .inl rfl
        · rw [hv]; right; simp only [Value.ownBlock]; intro e; injection e with e; omega, List.pairwise_singleton _ _⟩
      have HB1 := hide_ hb1
      have HLT := hide_ hlt
      have hRG := hrg
      have HRG := hide_ (show wr.rangeLeft m w.heap.size = cnt from hRG.left_eq)
      have hs9 : w.heap.size < w1.heap.size := by omega
      have hrg2 := hrg1.alloc (.cells #[.int .u32 x, .int .i64 c2] 68)
      have HRG1 := hide_ hrg2
      clear hb1 hlx hat hown hRG hrg hwx hwc hrg2 hs1 hg1 hlt hrg1
      go_wp2_with (at_builtin; refine wpList_append_owns _ rfl (.tmp 19) (.tmp 23) 22 rfl (w.heap.size + 1) _ 0 68 2 (.slice A k c) k (gCells l) rfl (hO0.alloc _) (by simp; omega) i0 _ 16 Try.underlying22 hi0 hz0 hz1 hz2 rfl (by omega) rfl _ _ 1 1 [.int .u32 x, .int .i64 c2] rfl (reads_new w1 68 2 1 [.int .u32 x, .int .i64 c2] rfl) (by simp [Value.oneCell']) (by simp only [maxLen]; omega) (by omega) ?_)
      intro v1 w2 hO1 hb2 hsz2
      obtain ⟨A1, c3, hv, _, _⟩ := ownsRow_slice (hO1.at_ (i := 0) rfl)
      simp only at hv
      subst hv
      have HO1 := hide_ (hO1.at_ (i := 0) rfl)
      have HB2 := hide_ hb2
      clear hO1 hb2 hO0
      have hRG3 : w2.ranges Try.prog 39 (plainElem Try.prog 3) m w.heap.size n D (fun z => left z && !z.sameKey (.int .u32 x)) cnt1 := by
        have h1 := HRG1.out
        have hm : m < w.heap.size + 1 := by omega
        obtain ⟨es, clock, since, seen, c0, r1, r2, r3, r4, r5, rest⟩ := h1
        exact ⟨es, clock, since, seen, c0, (HB2.out.block m hm).trans r1, r2, r3, r4, (HB2.out.block w.heap.size (by omega)).trans r5, rest⟩
      have HRG3 := hide_ hRG3
      clear hRG3
      go_wp2
      go_roundw
      case rel =>
        refine ⟨_, cnt1, A1, l ++ [(x, c2)], c3, HRG3.out, (HB1.out.alloc HB1.out.size _).trans (HB2.out.mono (by omega)), ?_, HG1.out, ?_, ?_, by omega⟩
        · rw [List.length_append, ← HK.out]; rfl
        · rw [List.length_append, ← HK.out]; have := HLT.out; simp; omega
        · rw [gCells_snoc, List.length_append, ← HK.out]
          exact HO1.out
      case measure => rw [HRG3.out.left_eq, HRG.out]; exact HLT.out
end Go.Proofs.Ytcfpclhoockcfaa
