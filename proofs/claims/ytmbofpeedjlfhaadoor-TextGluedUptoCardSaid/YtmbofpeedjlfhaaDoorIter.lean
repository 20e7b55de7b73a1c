/-
  The walks of text.cutting's iterator, and of what it calls.
-/
import Derived.RangeFuncNested
import Derived.RangeFuncBound
import Derived.RangeFuncCalls
import Derived.RangeFuncLeaves
import Derived.Shelf.Abstract
import Derived.Shelf.RegionOpen
import Derived.WalkKit
import Derived.OwnWalkIn
import Derived.TacticsInMore
import Derived.LoopNIn
import Derived.LoopIn
import Derived.Lib.OthersKept
import Derived.Lib.Strings
import Derived.WalkSpells
import Derived.WalkLawsBesides
import Derived.Test.YtmbofpeedjlfhaaDoorProg
import Derived.Test.YtmbofpeedjlfhaaDoorCuts
import Derived.Test.YtmbofpeedjlfhaaDoorKit
namespace Go.Proofs.YtmbofpeedjlfhaaDoor
open Go.RowKit Go.PlainAid Go.Shelf

abbrev pFFFD : ByteArray := ⟨#[239, 191, 189]⟩

theorem HasPrefix_short (t : ByteArray) (w : World) (h : t.size < 3) :
    Calls Tryd.prog 67 #[.string t, .string ⟨#[239, 191, 189]⟩] w fun e w' => e = .returned (.bool false) ∧ w = w' := by
  have hd : decide ((3 : Int) ≤ (t.size : Int)) = false := by simp; omega
  go_enter Tryd.func67, Tryd.ntmps67
  go_wp2
  go_ret
  exact ⟨rfl, rfl⟩
set_option maxRecDepth 100000 in
theorem HasPrefix_long (t : ByteArray) (w : World) (h : 3 ≤ t.size) :
    Calls Tryd.prog 67 #[.string t, .string ⟨#[239, 191, 189]⟩] w fun e w' => e = .returned (.bool ((t.extract 0 3).toList == [239, 191, 189])) ∧ w = w' := by
  go_enter Tryd.func67, Tryd.ntmps67
  go_wp2
  go_ret
  exact ⟨rfl, rfl⟩

theorem drop_get (s : ByteArray) (i : Nat) (h : i < s.size) : s.data.toList.drop i = s.get! i :: s.data.toList.drop (i + 1) := by
  rw [List.drop_eq_getElem_cons (by simpa using h), get!_eq s i h]
  rfl
theorem ext3 (s : ByteArray) (i : Nat) (h : i + 3 ≤ s.size) : ((s.extract i s.size).extract 0 3).toList = [s.get! i, s.get! (i + 1), s.get! (i + 2)] := by
  rw [ByteArray.toList_eq, Lib.extract_data, Lib.extract_data, drop_get s i (by omega), drop_get s (i + 1) (by omega), drop_get s (i + 1 + 1) (by omega)]
  obtain ⟨m, hm⟩ : ∃ m, s.size - i = m + 3 := ⟨s.size - i - 3, by omega⟩
  rw [hm]
  rfl
theorem HasPrefix_no (s : ByteArray) (i : Nat) (w : World) (hl : lost s i) :
    Calls Tryd.prog 67 #[.string (s.extract i s.size), .string ⟨#[239, 191, 189]⟩] w fun e w' => e = .returned (.bool false) ∧ w = w' := by
  by_cases h : s.size < i + 3
  · exact HasPrefix_short _ w (by simp [ByteArray.size_extract]; omega)
  · refine (HasPrefix_long _ w (by simp [ByteArray.size_extract]; omega)).mono ?_
    rintro e w' ⟨rfl, rfl⟩
    refine ⟨?_, rfl⟩
    have : ((s.extract i s.size).extract 0 3).toList ≠ [239, 191, 189] := by
      rw [ext3 s i (by omega)]
      intro he
      simp only [List.cons.injEq, and_true] at he
      obtain ⟨h0, h1, h2⟩ := he
      have := fffd_back s i (by omega) (by unfold bn; rw [h0]; rfl) (by unfold bn; rw [h1]; rfl) (by unfold bn; rw [h2]; rfl)
      have h3 := hl.2
      rw [this] at h3
      cases h3
    rw [show (((s.extract i s.size).extract 0 3).toList == [239, 191, 189]) = false from by simpa using this]
theorem HasPrefix_yes (s : ByteArray) (i : Nat) (w : World) (hi : i < s.size) (hd : (Utf8.decode s i).1 = 65533) (hl : ¬ lost s i) :
    Calls Tryd.prog 67 #[.string (s.extract i s.size), .string ⟨#[239, 191, 189]⟩] w fun e w' => e = .returned (.bool true) ∧ w = w' := by
  rcases fffd s i hi hd with h1 | ⟨_, h3, b0, b1, b2⟩
  · exact (hl ⟨hd, h1⟩).elim
  · refine (HasPrefix_long _ w (by simp [ByteArray.size_extract]; omega)).mono ?_
    rintro e w' ⟨rfl, rfl⟩
    refine ⟨?_, rfl⟩
    have u : ∀ (x : UInt8) (n : Nat), n < 256 → x.toNat = n → x = UInt8.ofNat n := fun x n _ h => by rw [← h]; simp
    rw [ext3 s i h3, u _ 239 (by omega) b0, u _ 191 (by omega) b1, u _ 189 (by omega) b2]
    rfl

/-- what a round over a text keeps -/
def KpT (n₀ : Nat) (A B : World) : Prop := Below n₀ A B ∧ KeepsWalks A B
theorem KpT_t {n₀ : Nat} {A B C : World} (h : KpT n₀ A B) (k : KpT n₀ B C) : KpT n₀ A C := ⟨h.1.trans k.1, h.2.trans k.2⟩
theorem KpT_b {n₀ : Nat} {w : World} (hn : n₀ ≤ w.heap.size) (W : World) (l : Nat) (o o' : Obj) (hl : w.heap.size ≤ l) (h : W.heap[l]? = some o) (hc : o.isCells = false) (hw : o.isWalk = false) : KpT n₀ W (W.putObj l o') :=
  ⟨belowK_b hn W l o o' hl h hc hw, walksK_b (w := w) W l o o' hl h hc hw⟩

abbrev encT (x : Nat × Int) : Array Value := #[.int .i64 x.1, .int .i32 x.2]

set_option maxRecDepth 100000 in
set_option maxHeartbeats 1000000 in
theorem cut1_in (n : Nat) (hn : 1 ≤ n) (l Bn n₀ B : Nat) (s : ByteArray) (J Jx : List (Nat × Int) → World → Prop) (hJ : AbidesFrom B J)
    (hY : ∀ pre x W, x ∈ cuts s → J pre W → pre.length < (cuts s).length → YieldAt Fence.wide (n - 1) Tryd.prog l (encT x) W fun e W' =>
      (e = .returned (.bool true) ∧ J (pre ++ [x]) W' ∧ KpT n₀ W W') ∨ (e = .returned (.bool false) ∧ Jx (pre ++ [x]) W'))
    (W : World) (hB : B ≤ W.heap.size) (hBn : Bn < n₀) (hn₀ : n₀ ≤ W.heap.size) (hc : W.cell? ⟨Bn, 0, none⟩ = some (.string s)) (h0 : J [] W) :
    CallsIn Fence.wide n Tryd.prog 66 #[.func (.yield l) #[] #[], .pointer (some ⟨Bn, 0, none⟩)] W fun e W' => (∃ v, e = .returned v) ∧
      ((∃ ys, ys = cuts s ∧ J ys W') ∨ (∃ pre, pre <+: cuts s ∧ Jx pre W')) := by
  refine callsIn_of_wp Tryd.func66 rfl trivial ?_ rfl
  simp only [Tryd.ntmps66, List.size_toArray, List.length_cons, List.length_nil, Nat.reduceAdd, Nat.reduceSub, Array.replicate_succ, Array.replicate_zero, List.push_toArray, List.append_toArray, List.nil_append, List.cons_append]
  have hWi : (W.iter s 0).heap[W.heap.size]? = some (.stringIter s 0) := World.iter_heap W s 0
  have hsz : W.heap.size < (W.iter s 0).heap.size := (Array.getElem?_eq_some_iff.1 hWi).1
  have hK0 : KpT n₀ W (W.iter s 0) := ⟨(Below.refl _ _).alloc hn₀ _, KeepsWalks.alloc _ _⟩
  have hJ0 : J [] (W.iter s 0) := hJ [] W (W.iter s 0) none h0 (World.grownBy_alloc W _ none) (fun r h => by cases h)
  obtain ⟨bi, hbi⟩ : ∃ bi, bi = W.heap.size := ⟨_, rfl⟩
  have Hbi := hide_ hbi
  gi_wp2
  gi_loopw [7] (fun _ wr => ∃ (pre : List (Nat × Int)) (pos : Nat), cuts s = pre ++ cutsAt s pos ∧ pos ≤ s.size ∧ wr.heap[W.heap.size]? = some (.stringIter s pos) ∧ wr.cell? ⟨Bn, 0, none⟩ = some (.string s) ∧ KpT n₀ W wr ∧ J pre wr) (fun _ wr => s.size - wr.iterPos W.heap.size)
  case atStart => exact ⟨[], 0, (cuts_at s), Nat.zero_le _, hWi, (hK0.1.cell (p := ⟨Bn, 0, none⟩) hBn).trans hc, hK0, hJ0⟩
  case round =>
    clear hWi hsz hK0 hJ0
    obtain ⟨pre, pos, hcut, hpos, hit, hcs, hK, hJs⟩ := hrel
    have HC := hide_ hcut
    have HIT := hide_ hit
    clear hcut
    by_cases hlt : pos < s.size
    · have hnx0 := fun ty => Lib.run_next_any_at (P := Tryd.prog) wr W.heap.size s pos ty hit hlt
      have hgr : wr.grownBy (wr.iterAt W.heap.size s (pos + cutN s pos)) (some W.heap.size) := ⟨rfl, rfl, rfl, by rw [Lib.iterAt_size]; exact Nat.le_refl _, fun k _ hk => Lib.iterAt_other wr W.heap.size k s _ (fun e => hk (by rw [e]))⟩
      have hJ1 : J pre (wr.iterAt W.heap.size s (pos + cutN s pos)) := hJ pre wr _ _ hJs hgr (fun r e => by cases e; exact ⟨hB, _, hit, rfl⟩)
      have hK1 : KpT n₀ W (wr.iterAt W.heap.size s (pos + cutN s pos)) := ⟨Lib.below_iterAt hK.1 hn₀ s _, ⟨by rw [Lib.iterAt_size]; exact hK.2.size, fun k o hk ho => by
        have hlt' : k < W.heap.size := (Array.getElem?_eq_some_iff.1 hk).1
        rw [Lib.iterAt_other _ _ _ _ _ (by omega)]
        exact hK.2.same k o hk ho⟩⟩
      have hit1 : (wr.iterAt W.heap.size s (pos + cutN s pos)).heap[W.heap.size]? = some (.stringIter s (pos + cutN s pos)) := Lib.iterAt_heap _ _ _ _ _ hit
      have hcs1 : (wr.iterAt W.heap.size s (pos + cutN s pos)).cell? ⟨Bn, 0, none⟩ = some (.string s) := by
        rw [World.cell?_of_block (w := wr) (Lib.iterAt_other wr W.heap.size Bn s _ (by omega))]; exact hcs
      have hnp := cutN_pos s pos
      have hnf := cutN_fits s pos hlt
      have hlen : pre.length < (cuts s).length := by rw [HC.out, cutsAt_lt s pos hlt]; simp
      have HS := hide_ (show cuts s = (pre ++ [(pos, cutR s pos)]) ++ cutsAt s (pos + cutN s pos) by rw [HC.out, cutsAt_lt s pos hlt]; simp)
      have HM := hide_ (iterPos_of hit)
      obtain ⟨w1, hw1⟩ : ∃ w1, w1 = wr.iterAt W.heap.size s (pos + cutN s pos) := ⟨_, rfl⟩
      obtain ⟨c, hcd⟩ : ∃ c : Int, c = ((Utf8.decode s pos).1 : Int) := ⟨_, rfl⟩
      rw [← hw1] at hJ1 hK1 hit1 hcs1
      have hnx : ∀ ty, (Instr.next (.pointer (some ⟨W.heap.size, 0, none⟩)) true ty).run Tryd.prog wr = .ok (.tuple #[.bool true, .int .i64 pos, .int .i32 c]) w1 := fun ty => by rw [hnx0 ty, hcd, hw1]; rfl
      have HN := hide_ hit1
      have HK := hide_ hK1
      have HD := hide_ hcd
      have HIB := hide_ hbi
      clear hnx0 hit HIT hgr hK hJs hw1 hit1 hK1 hcd hcs hbi Hbi HC
      have hc32 : 0 ≤ c ∧ c ≤ 1114111 := by
        have := (decodeN_rune (s.size - pos) (s.get! pos).toNat (s.get! (pos + 1)).toNat (s.get! (pos + 2)).toNat (s.get! (pos + 3)).toNat).1
        rw [← Lib.decode_at] at this
        rw [HD.out]; omega
      -- what is handed to yield, whatever the way
      have fin : ∀ r : Int, r = cutR s pos → YieldAt Fence.wide (n - 1) Tryd.prog l #[.int .i64 pos, .int .i32 r] w1 fun e W' =>
          (e = .returned (.bool true) ∧ J (pre ++ [(pos, cutR s pos)]) W' ∧ KpT n₀ w1 W') ∨ (e = .returned (.bool false) ∧ Jx (pre ++ [(pos, cutR s pos)]) W') := fun r hr => by
        have := hY pre (pos, cutR s pos) w1 (by rw [HS.out]; simp) hJ1 hlen
        rw [hr]
        exact this
      clear hY hJ hJ1
      by_cases hl : lost s pos
      · have hd : (c == 65533) = true := by rw [HD.out, hl.1]; rfl
        have hb := get_bt s
        have hb0 := bt_nonneg s pos
        have hb1 := bt_le s pos
        obtain ⟨fn, tmps, assign, body, hy, hR⟩ := fin (-1 - bt s pos) (by unfold cutR; rw [if_pos hl, bt_eq s pos hlt])
        clear fin
        gi_wp2_with (refine ⟨trivial, ?_⟩; gi_at_call 67; refine (callsIn_wide.2 (HasPrefix_no s pos _ hl)).mono ?_; rintro e w' ⟨rfl, rfl⟩)
        refine hR.mono ?_
        rintro e W3 (⟨rfl, hJ3, hk3⟩ | ⟨rfl, hJx3⟩)
        · gi_wp2
          go_roundw
          case rel => exact ⟨_, _, HS.out, hnf, hk3.2.same _ _ HN.out rfl, (hk3.1.cell (p := ⟨Bn, 0, none⟩) hBn).trans hcs1, KpT_t HK.out hk3, hJ3⟩
          case measure => rw [iterPos_of (hk3.2.same _ _ HN.out rfl), HM.out]; omega
        · gi_wp2
          refine bodyPost_ret (results_none rfl _ _ _) rfl ?_
          exact ⟨⟨_, rfl⟩, .inr ⟨_, ⟨_, HS.out.symm⟩, hJx3⟩⟩
      · by_cases hf : (Utf8.decode s pos).1 = 65533
        · obtain rfl : c = 65533 := by rw [HD.out, hf]; rfl
          obtain ⟨fn, tmps, assign, body, hy, hR⟩ := fin 65533 (by unfold cutR; rw [if_neg hl, hf]; rfl)
          clear fin
          gi_wp2_with (refine ⟨trivial, ?_⟩; gi_at_call 67; refine (callsIn_wide.2 (HasPrefix_yes s pos _ hlt hf hl)).mono ?_; rintro e w' ⟨rfl, rfl⟩)
          refine hR.mono ?_
          rintro e W3 (⟨rfl, hJ3, hk3⟩ | ⟨rfl, hJx3⟩)
          · gi_wp2
            go_roundw
            case rel => exact ⟨_, _, HS.out, hnf, hk3.2.same _ _ HN.out rfl, (hk3.1.cell (p := ⟨Bn, 0, none⟩) hBn).trans hcs1, KpT_t HK.out hk3, hJ3⟩
            case measure => rw [iterPos_of (hk3.2.same _ _ HN.out rfl), HM.out]; omega
          · gi_wp2
            refine bodyPost_ret (results_none rfl _ _ _) rfl ?_
            exact ⟨⟨_, rfl⟩, .inr ⟨_, ⟨_, HS.out.symm⟩, hJx3⟩⟩
        · have hd : (c == 65533) = false := by rw [HD.out, beq_eq_false_iff_ne]; omega
          obtain ⟨fn, tmps, assign, body, hy, hR⟩ := fin c (by unfold cutR; rw [if_neg hl, HD.out])
          clear fin
          gi_wp2
          refine ⟨trivial, ?_⟩
          gi_wp2
          refine hR.mono ?_
          rintro e W3 (⟨rfl, hJ3, hk3⟩ | ⟨rfl, hJx3⟩)
          · gi_wp2
            go_roundw
            case rel => exact ⟨_, _, HS.out, hnf, hk3.2.same _ _ HN.out rfl, (hk3.1.cell (p := ⟨Bn, 0, none⟩) hBn).trans hcs1, KpT_t HK.out hk3, hJ3⟩
            case measure => rw [iterPos_of (hk3.2.same _ _ HN.out rfl), HM.out]; omega
          · gi_wp2
            refine bodyPost_ret (results_none rfl _ _ _) rfl ?_
            exact ⟨⟨_, rfl⟩, .inr ⟨_, ⟨_, HS.out.symm⟩, hJx3⟩⟩
    · have hnx := fun ty => Lib.run_next_end_at (P := Tryd.prog) wr W.heap.size s pos ty hit hlt
      clear hit
      gi_wp2
      go_end0
      exact ⟨⟨_, rfl⟩, .inl ⟨pre, by rw [HC.out, cutsAt_ge s pos (by omega), List.append_nil], hJs⟩⟩
theorem cutting_any (s : ByteArray) (w : World) :
    Calls Tryd.prog 41 #[.string s] w fun e w' => e = .returned (.func (.func 66) #[] #[.pointer (some ⟨w.heap.size, 0, none⟩)]) ∧ w.alloc (.cells #[.string s] 9) = w' := by
  go_enter Tryd.func41, Tryd.ntmps41
  go_wp2
  go_ret
  exact ⟨rfl, rfl⟩
/-- the contract of the iterator as a loop's law takes it -/
theorem cut_stops (n : Nat) (hn : 1 ≤ n) (Bn n₀ : Nat) (s : ByteArray) (w : World) (hBn : Bn < n₀) (hn₀ : n₀ ≤ w.heap.size) (hc : w.cell? ⟨Bn, 0, none⟩ = some (.string s)) :
    SeqStopsK Fence.wide n Tryd.prog 66 #[.pointer (some ⟨Bn, 0, none⟩)] encT (KpT n₀) (fun ys => ys = cuts s) (fun pre => pre <+: cuts s) (cuts s).length w := fun l J Jx W hW hJ _ hY h0 =>
  cut1_in n hn l Bn n₀ W.heap.size s J Jx hJ (fun pre x W _ => hY pre x W) W (Nat.le_refl _) hBn (Nat.le_trans hn₀ hW.size) ((hW.cell (p := ⟨Bn, 0, none⟩) (by simp; omega)).trans hc) h0
/-- what is told, with the proof that it is told -/
abbrev CutT (s : ByteArray) := {x : Nat × Int // x ∈ cuts s}
theorem cut_stopsM (n : Nat) (hn : 1 ≤ n) (Bn n₀ : Nat) (s : ByteArray) (w : World) (hBn : Bn < n₀) (hn₀ : n₀ ≤ w.heap.size) (hc : w.cell? ⟨Bn, 0, none⟩ = some (.string s)) :
    SeqStopsK Fence.wide n Tryd.prog 66 #[.pointer (some ⟨Bn, 0, none⟩)] (fun (x : CutT s) => encT x.1) (KpT n₀) (fun ys => ys.map (·.1) = cuts s) (fun pre => pre.map (·.1) <+: cuts s) (cuts s).length w := fun l J Jx W hW hJ _ hY h0 => by
  refine (cut1_in n hn l Bn n₀ W.heap.size s (fun pre W => ∃ p : List (CutT s), p.map (·.1) = pre ∧ J p W) (fun pre W => ∃ p : List (CutT s), p.map (·.1) = pre ∧ Jx p W)
    (fun pre A B row hs hg hr => by obtain ⟨p, hp, hj⟩ := hs; exact ⟨p, hp, hJ p A B row hj hg hr⟩)
    (fun pre x V hx hj hl => ?_) W (Nat.le_refl _) hBn (Nat.le_trans hn₀ hW.size) ((hW.cell (p := ⟨Bn, 0, none⟩) (by simp; omega)).trans hc) ⟨[], rfl, h0⟩).mono ?_
  · obtain ⟨p, rfl, hj⟩ := hj
    refine (hY p ⟨x, hx⟩ V hj (by simpa using hl)).mono ?_
    rintro e V' (⟨he, hj', hk⟩ | ⟨he, hj'⟩)
    · exact .inl ⟨he, ⟨_, by simp, hj'⟩, hk⟩
    · exact .inr ⟨he, _, by simp, hj'⟩
  · rintro e V' ⟨he, ⟨ys, rfl, p, hp, hj⟩ | ⟨pre, hpre, p, rfl, hj⟩⟩
    · exact ⟨he, .inl ⟨p, hp, hj⟩⟩
    · exact ⟨he, .inr ⟨p, hpre, hj⟩⟩
end Go.Proofs.YtmbofpeedjlfhaaDoor
