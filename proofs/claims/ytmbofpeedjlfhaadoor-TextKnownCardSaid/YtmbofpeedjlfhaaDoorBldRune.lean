/-
  (*strings.Builder).WriteRune at this program (lines of the kit's proof, turned); a builder in the invariant of a loop over an iterator; strings.Cut at a nought.
-/
import Derived.Test.YtmbofpeedjlfhaaDoorBuilder
import Derived.Test.YtmbofpeedjlfhaaDoorIterB
import Derived.Laws.EntriesVeiled
import Derived.Test.YtmbofpeedjlfhaaDoorBytesP
import Derived.Sort.QuietIn
namespace Go.Proofs.YtmbofpeedjlfhaaDoor
open Go.RowKit Go.PlainAid Go.Shelf
attribute [local go_sem] Oper.semAt_some

set_option maxHeartbeats 2000000 in
set_option maxRecDepth 100000 in
theorem bld_rune (B b : Nat) (bs : List Value) (r : Int) (hr0 : -2147483648 ≤ r) (hr1 : r ≤ 2147483647) (w : World) (h : Lib.IsBuilderF 64 5 B b bs w) (hlen : bs.length + 4 ≤ 140737488355328) (hBw : B ≤ w.heap.size) :
    Calls Tryd.prog 46 #[.pointer (some ⟨b, 0, none⟩), .int .i32 r] w fun e w' => e = .returned (.tuple #[.int .i64 (Lib.runeCells r).length, .nilIface]) ∧ (Lib.BuilderAtF 64 5 B b (.pointer (some ⟨b, 0, none⟩)) (bs ++ Lib.runeCells r) w' ∧ Below B w w' ∧ Lib.OthersKept 5 (some b) w w') := by
  have hk4 := Lib.runeCells_le r
  go_enter Tryd.func46, Tryd.ntmps46
  go_wp2_with (go_at_call 59; refine (bld_check B b bs _ h).mono ?_)
  rintro e w1 ⟨rfl, h1, hb1, hk1⟩
  obtain ⟨hB, v, hbk, hown, hne⟩ := h1
  obtain ⟨ao, cap, rfl⟩ : ∃ ao cap, v = .slice ao bs.length cap := by
    rcases hown.2 with ⟨hv, h0⟩ | ⟨g, cap, cur, fz, hv, _⟩
    · exact ⟨none, 0, by rw [hv, h0]⟩
    · exact ⟨_, _, hv⟩
  have c0 : w1.cell? ⟨b, 0, none⟩ = some (.pointer (some ⟨b, 0, none⟩)) := by rw [Lib.cell_of_heap hbk]; rfl
  have c1 : w1.cell? ⟨b, 1, none⟩ = some (.slice ao bs.length cap) := by rw [Lib.cell_of_heap hbk]; rfl
  go_wp2_with (go_at_call 43; refine (Tryd.utf8_AppendRune_row B _ bs.length bs r hr0 hr1 _ hown hlen (by have := hb1.size; omega)).mono ?_)
  rintro e w2 ⟨v', rfl, hown', o, hgrow⟩
  have hlt : b < w1.heap.size := by
    rcases Nat.lt_or_ge b w1.heap.size with h' | h'
    · exact h'
    · simp [Array.getElem?_eq_none h'] at hbk
  have hb2 : w2.heap[b]? = some (.cells #[.pointer (some ⟨b, 0, none⟩), .slice ao bs.length cap] 64 (0, 0)) := by
    rw [hgrow.block b (by simp; omega) (fun e => hne e.symm), Lib.alloc_old w1 _ b hlt]
    exact hbk
  have d0 : w2.cell? ⟨b, 0, none⟩ = some (.pointer (some ⟨b, 0, none⟩)) := by rw [Lib.cell_of_heap hb2]; rfl
  have d1 : w2.cell? ⟨b, 1, none⟩ = some (.slice ao bs.length cap) := by rw [Lib.cell_of_heap hb2]; rfl
  have f1 : w2.frozen? ⟨b, 1, none⟩ = false := Lib.frozen_of_heap hb2 1
  obtain ⟨g, cap', rfl⟩ : ∃ g cap', v' = .slice (some ⟨g, 0, none⟩) (bs.length + (Lib.runeCells r).length) cap' := by
    rcases hown'.2 with ⟨_, h0⟩ | ⟨g, cap', cur, fz, hv, _⟩
    · omega
    · exact ⟨g, cap', hv⟩
  go_wp2
  go_ret2
  refine ⟨?_, ?_, ?_, ((hk1.alloc _).grown hgrow (Lib.ownsRowF_kind (hown.alloc _))).setCell ⟨b, 1, none⟩ rfl _⟩
  · have e : ((bs.length : Int) + ((Lib.runeCells r).length : Int) - (bs.length : Int)) = ((Lib.runeCells r).length : Int) := by omega
    simp [e]
  · exact Lib.BuilderAtF.put (T := 64) (e := 5) hB hb2 (bs' := bs ++ Lib.runeCells r) (by simpa using hown') (by decide)
  · exact ((hb1.alloc (by have := hb1.size; omega) _).grown hgrow (by have := hb1.size; simp; omega) (fun k hk => (hown.lt k hk).1)).setCell (p := ⟨b, 1, none⟩) hB _

/-- a builder in a loop's invariant: what turns there are no cells -/
theorem builderAt_kept {T e : TypeId} {B b : Nat} {p : Value} {bs : List Value} {X Y : World} {row : Option Nat} (h : Lib.BuilderAtF T e B b p bs X) (hg : X.grownBy Y row) (hr : ∀ r, row = some r → ∃ o, X.heap[r]? = some o ∧ o.isCells = false) : Lib.BuilderAtF T e B b p bs Y := by
  obtain ⟨hB, v, hbk, hown, hne⟩ := h
  have hb : some b ≠ row := fun e => by
    obtain ⟨o, ho, hc⟩ := hr b e.symm
    rw [hbk] at ho
    cases ho
    cases hc
  refine ⟨hB, v, (hg.block b (Array.getElem?_eq_some_iff.1 hbk).1 hb).trans hbk, hown.kept hg ?_, hne⟩
  cases hv : v.ownBlock with
  | none => exact .inl rfl
  | some k =>
    refine .inr fun e => ?_
    obtain ⟨c, fz, hk⟩ := Lib.ownsRowF_kind hown k hv
    obtain ⟨o, ho, hc⟩ := hr k e.symm
    rw [hk] at ho
    cases ho
    cases hc
theorem builder_own {β : Type} (T e : TypeId) (B b : Nat) (f : β → List Value) : Own (fun s W => Lib.IsBuilderF T e B b (f s) W) := fun s X Y row hs hg hr => by
  rcases hs with h | h
  · exact .inl (builderAt_kept h hg hr)
  · exact .inr (builderAt_kept h hg hr)
/-- what a writer keeps, as a loop wants it -/
theorem others_from {e : TypeId} {b : Nat} {W W' : World} (B : Nat) (h : Lib.OthersKept e (some b) W W') (hs : W.heap.size ≤ W'.heap.size) (hb : ∃ cs t fz, W.heap[b]? = some (.cells cs t fz)) : KeepsFrom B W W' ∧ KeepsWalks W W' := by
  obtain ⟨cs, t, fz, hb⟩ := hb
  have key : ∀ (k : Nat) (o : Obj), W.heap[k]? = some o → o.isCells = false → W'.heap[k]? = some o := fun k o hk ho =>
    h k o hk (fun e => by cases e; rw [hb] at hk; cases hk; cases ho) (fun c f e => by subst e; cases ho)
  exact ⟨⟨hs, fun k o hk _ ho => by first | exact key k o hk ho | exact key k o ‹_› ho⟩, ⟨hs, fun k o hk ho => key k o hk (Obj.not_cells_of_walk ho)⟩⟩
theorem isBuilder_at {T e : TypeId} {B b : Nat} {bs : List Value} {w : World} (h : Lib.IsBuilderF T e B b bs w) : ∃ cs t fz, w.heap[b]? = some (.cells cs t fz) := by
  rcases h with ⟨_, v, hb, _⟩ | ⟨_, v, hb, _⟩ <;> exact ⟨_, _, _, hb⟩

/-! ### strings.Cut at a nought -/
/-- the bytes ahead of the first nought -/
def upTo (xs : List Int) : List Int := xs.takeWhile fun x => decide (x ≠ 0)
theorem upTo_byte (xs : List Int) (h : ∀ x ∈ xs, isByte x) : ∀ x ∈ upTo xs, isByte x := fun x hx => h x ((List.takeWhile_sublist _).subset hx)
theorem upTo_len (xs : List Int) : (upTo xs).length ≤ xs.length := (List.takeWhile_sublist _).length_le
theorem upTo_take (xs : List Int) : xs.take (upTo xs).length = upTo xs := by
  induction xs with
  | nil => rfl
  | cons x l ih =>
    unfold upTo at ih ⊢
    rw [List.takeWhile_cons]
    split
    · rw [List.length_cons, List.take_succ_cons, ih]
    · rfl
theorem index_nought (xs : List Int) (h : ∀ x ∈ xs, isByte x) : Lib.indexByte (b8s xs) 0 = if (upTo xs).length < xs.length then ((upTo xs).length : Int) else -1 := by
  induction xs with
  | nil => rfl
  | cons x l ih =>
    obtain ⟨h0, h1⟩ := h x (by simp)
    have ih := ih (fun y hy => h y (by simp [hy]))
    have e : b8s (x :: l) = UInt8.ofNat x.toNat :: b8s l := rfl
    have hl := upTo_len l
    rw [e, Lib.indexByte]
    by_cases hx : x = 0
    · subst hx
      have : upTo (0 :: l) = [] := by unfold upTo; rw [List.takeWhile_cons]; rfl
      rw [this]
      simp
    · have hu : upTo (x :: l) = x :: upTo l := by unfold upTo; rw [List.takeWhile_cons, if_pos (by simpa using hx)]
      have hne : ¬ (UInt8.ofNat x.toNat == (0 : UInt8)) = true := by
        intro hc
        have := congrArg UInt8.toNat (beq_iff_eq.1 hc)
        rw [UInt8.toNat_ofNat', Nat.mod_eq_of_lt (by omega)] at this
        have : x.toNat = 0 := this
        omega
      rw [if_neg hne, ih, hu, List.length_cons, List.length_cons]
      by_cases hc : (upTo l).length < l.length
      · have e1 : ¬ ((((upTo l).length : Int) == -1) = true) := by rw [beq_iff_eq]; omega
        rw [if_pos hc, if_neg e1, if_pos (by omega)]
        rfl
      · have e1 : (((-1 : Int) == -1) = true) := rfl
        rw [if_neg hc, if_pos e1, if_neg (by omega)]
theorem strOf_b8s (xs : List Int) : (strOfNums xs).data.toList = b8s xs := rfl
theorem extract_upTo (xs : List Int) : (strOfNums xs).extract 0 (upTo xs).length = strOfNums (upTo xs) := by
  apply ByteArray.ext
  rw [ByteArray.data_extract]
  apply Array.toList_inj.1
  have h1 : ((strOfNums xs).data.extract 0 (upTo xs).length).toList = (b8s xs).take (upTo xs).length := by simp [strOf_b8s]
  rw [h1]
  show (b8s xs).take (upTo xs).length = b8s (upTo xs)
  unfold b8s
  rw [← List.map_take, upTo_take]
theorem upTo_full (xs : List Int) (h : ¬ (upTo xs).length < xs.length) : upTo xs = xs := by
  have h1 := upTo_take xs
  rw [List.take_of_length_le (by omega)] at h1
  exact h1.symm
set_option maxHeartbeats 1000000 in
set_option maxRecDepth 100000 in
theorem slCut_nought (xs : List Int) (w : World) (hx : ∀ x ∈ xs, isByte x) (hz : xs.length ≤ 140737488351232) :
    Calls Tryd.prog 71 #[.string (strOfNums xs), .string ⟨#[0]⟩] w fun e w' => ∃ u b, e = .returned (.tuple #[.string (strOfNums (upTo xs)), .string u, .bool b]) ∧ ∃ n, w' = w.drewN n := by
  have hidx := fun W => Tryd.stringslite_Index_one (strOfNums xs) 0 W
  simp only [strOf_b8s, index_nought xs hx] at hidx
  have hsz := strOfNums_size xs
  have hex := extract_upTo xs
  have hle := upTo_len xs
  have mixed : Tryd.prog.follows .mixedOrders = true := by kernel_rfl
  by_cases hc : (upTo xs).length < xs.length
  · simp only [if_pos hc] at hidx
    obtain ⟨S, hS⟩ : ∃ S, S = strOfNums xs := ⟨_, rfl⟩
    obtain ⟨V, hV⟩ : ∃ V, V = strOfNums (upTo xs) := ⟨_, rfl⟩
    obtain ⟨N, hN⟩ : ∃ N, N = (upTo xs).length := ⟨_, rfl⟩
    simp only [← hS, ← hN] at hidx
    rw [← hS] at hsz
    rw [← hS, ← hV, ← hN] at hex
    rw [← hN] at hc hle
    rw [← hS, ← hV]
    have hNS : N + 1 ≤ S.size := by omega
    have hS47 : S.size ≤ 140737488351232 := by omega
    have HI := hide_ hidx
    have HX := hide_ hex
    clear hidx hex hsz hS hV hN hc hle
    refine (callsIn_wide (n := 30)).1 ?_
    refine callsIn_of_wp_marks Tryd.func71 rfl trivial ?_ rfl
    simp only [Tryd.ntmps71, List.size_toArray, List.length_cons, List.length_nil, Nat.reduceAdd, Nat.reduceSub, Array.replicate_succ, Array.replicate_zero, List.push_toArray, List.append_toArray, List.nil_append, List.cons_append]
    gi_wp2_with fail
    refine ⟨trivial, ?_⟩
    refine (callsIn_wide.2 (HI.out _)).mono ?_
    rintro e w2 ⟨rfl, rfl⟩
    gi_wp2_with fail
    refine wpIn_region_quiet_lit rfl mixed (by kernel_rfl) ?_
    repeat (gi_big_quiet_step (fail))
    refine wpQuietIn_nil ?_
    rintro _ ⟨nq', rfl⟩
    gi_wp2
    refine ⟨.tuple #[.string (S.extract 0 N), .string (S.extract (N + 1) S.size), .bool true], by simp [results, Tryd.results71, go_sem], ?_⟩
    rw [HX.out]
    exact ⟨_, _, rfl, nq', rfl⟩
  · simp only [if_neg hc] at hidx
    rw [upTo_full xs hc]
    have HI := hide_ hidx
    clear hidx hex hsz hle hc
    go_enter Tryd.func71, Tryd.ntmps71
    go_wp2_with (go_at_call 88; refine (HI.out _).mono ?_; rintro e w' ⟨rfl, rfl⟩)
    go_ret3
    exact ⟨_, _, rfl, 0, rfl⟩
theorem Cut_nought (xs : List Int) (w : World) (hx : ∀ x ∈ xs, isByte x) (hz : xs.length ≤ 140737488351232) :
    Calls Tryd.prog 44 #[.string (strOfNums xs), .string ⟨#[0]⟩] w fun e w' => ∃ u b, e = .returned (.tuple #[.string (strOfNums (upTo xs)), .string u, .bool b]) ∧ ∃ n, w' = w.drewN n := by
  have H := hide_ (fun W => slCut_nought xs W hx hz)
  obtain ⟨S, hS⟩ : ∃ S, S = strOfNums xs := ⟨_, rfl⟩
  obtain ⟨V, hV⟩ : ∃ V, V = strOfNums (upTo xs) := ⟨_, rfl⟩
  rw [← hS, ← hV] at H
  rw [← hS, ← hV]
  clear hS hV
  go_enter Tryd.func44, Tryd.ntmps44
  go_wp2_with (go_at_call 71; refine (H.out _).mono ?_; rintro e w' ⟨u, b, rfl, n, rfl⟩)
  go_ret3
  exact ⟨_, _, rfl, _, rfl⟩
end Go.Proofs.YtmbofpeedjlfhaaDoor
