/-
  The walk of the statement TextRunes.
-/
import Derived.Test.YtohpnalklbjkoaaCutsWalk
import Derived.Test.YtohpnalklbjkoaaLoops
import Derived.Laws.EntriesVeiled
namespace Go.Proofs.Ytohpnalklbjkoaa
open Go.RowKit Go.PlainAid Go.Shelf
attribute [local go_sem] Oper.semAt_some

theorem Pick_any (x n : Int) (w : World) (hn : 1 ≤ n) (hn' : n ≤ 9223372036854775807) :
    Calls Try.prog 16 #[.int .i64 x, .int .i64 n] w fun e w' => e = .returned (.int .i64 (x % n)) ∧ w = w' := by
  have h1 : ¬ n < 1 := by omega
  have h0 : (n == 0) = false := by rw [beq_eq_false_iff_ne]; omega
  have hm0 := Int.emod_nonneg x (show n ≠ 0 by omega)
  have hm1 := Int.emod_lt_of_pos x (show 0 < n by omega)
  have hw : ∀ y : Int, -9223372036854775808 ≤ y ∧ y ≤ 9223372036854775807 → wrap64 y = y := fun y h => by unfold wrap64; omega
  by_cases hneg : x.tmod n < 0
  · have e : x % n = x.tmod n + n := by
      have := Int.tmod_eq_emod (a := x) (b := n)
      rw [this]
      split
      · rename_i h
        rw [this, if_pos h] at hneg
        omega
      · rw [show (n.natAbs : Int) = n by omega]; omega
    rw [e]
    rw [e] at hm0 hm1
    go_enter Try.func16, Try.ntmps16
    go_wp2
    go_ret
    exact ⟨rfl, rfl⟩
  · have e : x % n = x.tmod n := by
      have := Int.tmod_eq_emod (a := x) (b := n)
      rw [this]
      split
      · omega
      · rename_i h
        rw [this, if_neg h, show (n.natAbs : Int) = n by omega] at hneg
        omega
    rw [e]
    rw [e] at hm0 hm1
    go_enter Try.func16, Try.ntmps16
    go_wp2
    go_ret
    exact ⟨rfl, rfl⟩

theorem pre_next {α : Type} {L pre : List α} {x c : α} (h : pre <+: L) (hc : L[pre.length]? = some c) : (pre ++ [x] <+: L ↔ x = c) := by
  obtain ⟨t, rfl⟩ := h
  rw [List.getElem?_append_right (Nat.le_refl _), Nat.sub_self] at hc
  cases t with
  | nil => simp at hc
  | cons y t =>
    simp only [List.getElem?_cons_zero, Option.some.injEq] at hc
    subst hc
    rw [List.prefix_append_right_inj]
    simp
theorem pre_end {α : Type} {L pre : List α} (h : pre <+: L) (hl : pre.length = L.length) : pre = L := h.eq_of_length hl

theorem func_not_nil (a : Addr) (w : World) : (binOp .eql 27 (.func (.func 48) #[] #[.pointer (some a)]) .nilFunc).run Try.prog w = .ok (.bool false) w := by kernel_rfl

set_option maxRecDepth 100000 in
set_option maxHeartbeats 4000000 in
theorem TextRunes_walk (s : ByteArray) (leave : Int) (w : World) (hz : s.size ≤ 1048576) (wl : (Lit.int .i64 leave).wf = true) :
    Calls Try.prog 3 #[.string s, .int .i64 leave] w fun e w' => e = .returned (.bool true) ∧ Below w.heap.size w w' := by
  refine (callsIn_wide (n := 30)).1 ?_
  refine callsIn_of_wp_marks Try.func3 rfl trivial ?_ rfl
  simp only [Try.ntmps3, List.size_toArray, List.length_cons, List.length_nil, Nat.reduceAdd, Nat.reduceSub, Array.replicate_succ, Array.replicate_zero, List.push_toArray, List.append_toArray, List.nil_append, List.cons_append]
  have hcl := cuts_len s
  have hfn := func_not_nil
  gi_wp2_with fail
  refine ⟨trivial, ?_⟩
  refine (callsIn_wide.2 (Cuts_reads s _ hz)).mono ?_
  rintro e w1 ⟨A1, c1, A2, c2, rfl, hP, hN, hb⟩
  gi_wp2_with fail
  refine ⟨trivial, ?_⟩
  refine (callsIn_wide.2 (Runes_any s _)).mono ?_
  rintro e w2 ⟨rfl, rfl⟩
  gi_wp2_with fail
  -- the boxes
  have b1 := ((((Boxed.new w1 22 (.slice A1 (cuts s).length c1)).alloc (.cells #[.slice A2 (cuts s).length c2] 23)).alloc (.cells #[.string s] 9)).alloc (.cells #[.func (.func 48) #[] #[.pointer (some ⟨w1.heap.size + 1 + 1, 0, none⟩)]] 27)).alloc (.cells #[.int .i64 0] 3)
  have b2 := (((Boxed.new (w1.alloc (.cells #[.slice A1 (cuts s).length c1] 22)) 23 (.slice A2 (cuts s).length c2)).alloc (.cells #[.string s] 9)).alloc (.cells #[.func (.func 48) #[] #[.pointer (some ⟨w1.heap.size + 1 + 1, 0, none⟩)]] 27)).alloc (.cells #[.int .i64 0] 3)
  have b3 := ((Boxed.new ((w1.alloc (.cells #[.slice A1 (cuts s).length c1] 22)).alloc (.cells #[.slice A2 (cuts s).length c2] 23)) 9 (.string s)).alloc (.cells #[.func (.func 48) #[] #[.pointer (some ⟨w1.heap.size + 1 + 1, 0, none⟩)]] 27)).alloc (.cells #[.int .i64 0] 3)
  have b4 := (Boxed.new (((w1.alloc (.cells #[.slice A1 (cuts s).length c1] 22)).alloc (.cells #[.slice A2 (cuts s).length c2] 23)).alloc (.cells #[.string s] 9)) 27 (.func (.func 48) #[] #[.pointer (some ⟨w1.heap.size + 1 + 1, 0, none⟩)])).alloc (.cells #[.int .i64 0] 3)
  have b5 := Boxed.new ((((w1.alloc (.cells #[.slice A1 (cuts s).length c1] 22)).alloc (.cells #[.slice A2 (cuts s).length c2] 23)).alloc (.cells #[.string s] 9)).alloc (.cells #[.func (.func 48) #[] #[.pointer (some ⟨w1.heap.size + 1 + 1, 0, none⟩)]] 27)) 3 (.int .i64 0)
  simp only [World.size_alloc] at b2 b3 b4 b5
  have hB3 : Below w1.heap.size w1 (((((w1.alloc (.cells #[.slice A1 (cuts s).length c1] 22)).alloc (.cells #[.slice A2 (cuts s).length c2] 23)).alloc (.cells #[.string s] 9)).alloc (.cells #[.func (.func 48) #[] #[.pointer (some ⟨w1.heap.size + 1 + 1, 0, none⟩)]] 27)).alloc (.cells #[.int .i64 0] 3)) :=
    (((((Below.refl _ w1).alloc (Nat.le_refl _) _).alloc (by simp) _).alloc (by simp; omega) _).alloc (by simp; omega) _).alloc (by simp; omega) _
  have hsz : (((((w1.alloc (.cells #[.slice A1 (cuts s).length c1] 22)).alloc (.cells #[.slice A2 (cuts s).length c2] 23)).alloc (.cells #[.string s] 9)).alloc (.cells #[.func (.func 48) #[] #[.pointer (some ⟨w1.heap.size + 1 + 1, 0, none⟩)]] 27)).alloc (.cells #[.int .i64 0] 3)).heap.size = w1.heap.size + 1 + 1 + 1 + 1 + 1 := by simp
  obtain ⟨w3, hw3⟩ : ∃ w3, ((((w1.alloc (.cells #[.slice A1 (cuts s).length c1] 22)).alloc (.cells #[.slice A2 (cuts s).length c2] 23)).alloc (.cells #[.string s] 9)).alloc (.cells #[.func (.func 48) #[] #[.pointer (some ⟨w1.heap.size + 1 + 1, 0, none⟩)]] 27)).alloc (.cells #[.int .i64 0] 3) = w3 := ⟨_, rfl⟩
  rw [hw3] at b1 b2 b3 b4 b5 hB3 hsz ⊢
  clear hw3
  have hR1 : w1.cell? ⟨w.heap.size, 0, none⟩ = some (.bool false) := by rw [hb.cell (p := ⟨w.heap.size, 0, none⟩) (by simp)]; exact (Boxed.new w 4 (.bool false)).cell
  have hF1 : w1.frozen? ⟨w.heap.size, 0, none⟩ = false := by rw [hb.frozen (p := ⟨w.heap.size, 0, none⟩) (by simp)]; exact (Boxed.new w 4 (.bool false)).frozen
  have hsz1 : w.heap.size < w1.heap.size := by have := hb.size; simp at this; omega
  have HSZ := hide_ hsz
  have hnb : w1.heap.size + 1 + 1 + 1 + 1 < w3.heap.size := by omega
  clear hsz
  refine rangeT (Bn := w1.heap.size + 1 + 1) (n₀ := w1.heap.size + 1 + 1 + 1 + 1) (s := s) (P' := 9) (Q' := 10) (by omega) rfl (by omega) (by omega) b3.cell
    (fun pre W => pre <+: cuts s ∧ (Boxed W (w1.heap.size + 1 + 1 + 1 + 1) 3 (.int .i64 pre.length) ∧ Below (w1.heap.size + 1 + 1 + 1 + 1) w3 W))
    (fun c pre _ => c = .ret ∧ ¬ pre <+: cuts s)
    (OwnFrom.and (ownFrom_pure _ _) (OwnFrom.and (Own.from (boxed_own _ _ _) _) (ownFrom_below (by omega) (by omega))))
    (fun c => ownFrom_pure _ _)
    ⟨List.nil_prefix, b5, Below.refl _ _⟩ ?assign1 ?body1 ?done1 ?stop1
  case assign1 =>
    intro l x W K hK
    simp only [updA, List.setIfInBounds_toArray, List.set_cons_succ, List.set_cons_zero] at hK ⊢
    gi_wp2
    exact hK
  case stop1 =>
    rintro D c pre W hD hS ⟨rfl, hx⟩ hk
    exact (hx hS).elim
  case body1 =>
    rintro l pre ⟨p, r⟩ W hl hr ⟨hpre, bN, hBW⟩ hlen
    simp only [updA, List.setIfInBounds_toArray, List.set_cons_succ, List.set_cons_zero]
    have cN := bN.cell
    have fN := bN.frozen
    have cP := (hBW.cell (p := ⟨w1.heap.size, 0, none⟩) (by dsimp only; omega)).trans b1.cell
    have cQ := (hBW.cell (p := ⟨w1.heap.size + 1, 0, none⟩) (by dsimp only; omega)).trans b2.cell
    have cR := (hBW.cell (p := ⟨w.heap.size, 0, none⟩) (by dsimp only; omega)).trans ((hB3.cell (p := ⟨w.heap.size, 0, none⟩) (by dsimp only; omega)).trans hR1)
    have fR := (hBW.frozen (p := ⟨w.heap.size, 0, none⟩) (by dsimp only; omega)).trans ((hB3.frozen (p := ⟨w.heap.size, 0, none⟩) (by dsimp only; omega)).trans hF1)
    obtain ⟨ad1, u1, rfl, _, hu1, hc1⟩ := ((hP.below hB3).below (hBW.mono (by omega))).at_ hlen
    obtain ⟨ad2, u2, rfl, _, hu2, hc2⟩ := ((hN.below hB3).below (hBW.mono (by omega))).at_ hlen
    obtain ⟨c, hcc⟩ : ∃ c, (cuts s)[pre.length]? = some c := ⟨_, List.getElem?_eq_getElem hlen⟩
    have e1 : u1 = .int .i64 (c.1 : Nat) := by rw [List.getElem?_map, hcc] at hu1; simpa using hu1.symm
    have e2 : u2 = .int .i32 c.2 := by rw [List.getElem?_map, hcc] at hu2; simpa using hu2.symm
    subst e1 e2
    have HX := hide_ (pre_next (x := (p, r)) hpre hcc)
    clear hu1 hu2 hcc hpre
    by_cases hx : p = c.1
    · subst hx
      by_cases hx2 : r = c.2
      · subst hx2
        gi_wp2
        exact ⟨(KeepsOthers.setCell _ _ _).from _, ⟨(Below.refl _ W).setCell (p := ⟨w1.heap.size + 1 + 1 + 1 + 1, 0, none⟩) (Nat.le_refl _) _, KeepsWalks.setCell _ _ _⟩, HX.out.2 (by trivial), by simpa using bN.set (.int .i64 ((pre.length : Int) + 1)), hBW.setCell (p := ⟨w1.heap.size + 1 + 1 + 1 + 1, 0, none⟩) (Nat.le_refl _) _⟩
      · have hd : (r != c.2) = true := bne_iff_ne.2 hx2
        have HX2 := hide_ hx2
        clear hx2
        gi_wp2
        exact ⟨(KeepsOthers.setCell _ _ _).from _, rfl, fun hp => HX2.out (congrArg Prod.snd (HX.out.1 hp))⟩
    · have hd : ((p : Int) != (c.1 : Nat)) = true := bne_iff_ne.2 (by omega)
      have HX2 := hide_ hx
      clear hx
      gi_wp2
      exact ⟨(KeepsOthers.setCell _ _ _).from _, rfl, fun hp => HX2.out (congrArg Prod.fst (HX.out.1 hp))⟩
  case done1 =>
    rintro D W hD ⟨_, bN, hBW⟩ hk
    have cN := bN.cell
    have fN := bN.frozen
    have cP := (hBW.cell (p := ⟨w1.heap.size, 0, none⟩) (by dsimp only; omega)).trans b1.cell
    have cS7 := (hBW.cell (p := ⟨w1.heap.size + 1 + 1 + 1, 0, none⟩) (by dsimp only; omega)).trans b4.cell
    obtain ⟨hl1, hl2⟩ : -9223372036854775808 ≤ leave ∧ leave ≤ 9223372036854775807 := by simpa [Lit.wf, IntKind.min, IntKind.max, IntKind.signed, IntKind.bits] using wl
    have hm0 := Int.emod_nonneg leave (show ((cuts s).length : Int) + 1 ≠ 0 by omega)
    have hm1 := Int.emod_lt_of_pos leave (show 0 < ((cuts s).length : Int) + 1 by omega)
    obtain ⟨stop, hstop⟩ : ∃ stop : Nat, (stop : Int) = leave % (((cuts s).length : Int) + 1) := ⟨(leave % (((cuts s).length : Int) + 1)).toNat, by omega⟩
    have hst : stop ≤ (cuts s).length := by omega
    have hpick := fun W => Pick_any leave (((cuts s).length : Int) + 1) W (by omega) (by omega)
    rw [← hstop] at hpick
    have hnW := bN.lt
    have hnW7 : w1.heap.size + 1 + 1 + 1 < W.heap.size := by omega
    have HP := hide_ hpick
    clear hpick hstop hm0 hm1
    gi_wp2_with (refine ⟨trivial, ?_⟩; gi_at_call 16; refine (callsIn_wide.2 (HP.out _)).mono ?_; rintro e w' ⟨rfl, rfl⟩)
    -- the second loop
    have bN4 := (bN.set (.int .i64 0)).alloc (.cells #[.int .i64 stop] 3)
    have bS4 := Boxed.new (W.setCell ⟨w1.heap.size + 1 + 1 + 1 + 1, 0, none⟩ (.int .i64 0)) 3 (.int .i64 stop)
    have hBW4 : Below (w1.heap.size + 1 + 1 + 1 + 1) w3 ((W.setCell ⟨w1.heap.size + 1 + 1 + 1 + 1, 0, none⟩ (.int .i64 0)).alloc (.cells #[.int .i64 stop] 3)) := (hBW.setCell (p := ⟨w1.heap.size + 1 + 1 + 1 + 1, 0, none⟩) (Nat.le_refl _) _).alloc (by simp; omega) _
    have hk4 : ((W.setCell ⟨w1.heap.size + 1 + 1 + 1 + 1, 0, none⟩ (.int .i64 0)).alloc (.cells #[.int .i64 stop] 3)).heap[D]? = some (.deferred (some [])) := by
      rw [Below.heap_alloc _ _ _ (by simp; exact (Array.getElem?_eq_some_iff.1 hk).1), Below.heap_setCell _ _ _ _ (by dsimp only; omega)]
      exact hk
    have hDlt : D < W.heap.size := (Array.getElem?_eq_some_iff.1 hk).1
    have hsz4 : ((W.setCell ⟨w1.heap.size + 1 + 1 + 1 + 1, 0, none⟩ (.int .i64 0)).alloc (.cells #[.int .i64 stop] 3)).heap.size = W.heap.size + 1 := by simp
    rw [show (W.setCell ⟨w1.heap.size + 1 + 1 + 1 + 1, 0, none⟩ (.int .i64 0)).heap.size = W.heap.size by simp] at bS4
    obtain ⟨w4, hw4⟩ : ∃ w4, (W.setCell ⟨w1.heap.size + 1 + 1 + 1 + 1, 0, none⟩ (.int .i64 0)).alloc (.cells #[.int .i64 stop] 3) = w4 := ⟨_, rfl⟩
    obtain ⟨sb, hsb⟩ : ∃ sb, sb = W.heap.size := ⟨_, rfl⟩
    rw [hw4] at bN4 bS4 hBW4 hk4 hsz4 ⊢
    rw [← hsb] at bS4 hsz4 hDlt ⊢
    have hsbn : w1.heap.size + 1 + 1 + 1 + 1 < sb := by omega
    have hBall : Below w.heap.size w w3 := (((Below.refl _ w).alloc (Nat.le_refl _) _).trans (hb.mono (by simp))).trans (hB3.mono (by omega))
    have h4 : sb < w4.heap.size := by omega
    clear hw4 hk cN fN cP cS7 hnW hnW7 bN hBW hsb HP hsz4
    refine rangeT (Bn := w1.heap.size + 1 + 1) (n₀ := w1.heap.size + 1 + 1 + 1 + 1) (s := s) (P' := 12) (Q' := 13) (by omega) rfl (by omega) (by omega) ((hBW4.cell (p := ⟨w1.heap.size + 1 + 1, 0, none⟩) (by dsimp only; omega)).trans b3.cell)
      (fun pre W2 => (pre <+: cuts s ∧ pre.length ≤ stop) ∧ (Boxed W2 (w1.heap.size + 1 + 1 + 1 + 1) 3 (.int .i64 pre.length) ∧ (Boxed W2 sb 3 (.int .i64 stop) ∧ (Below (w1.heap.size + 1 + 1 + 1 + 1) w3 W2 ∧ W2.heap[D]? = some (.deferred (some []))))))
      (fun c pre W2 => (c = .ret ∧ ¬ pre <+: cuts s) ∨ (c = .exit 2 ∧ (Boxed W2 (w1.heap.size + 1 + 1 + 1 + 1) 3 (.int .i64 stop) ∧ (Boxed W2 sb 3 (.int .i64 stop) ∧ (Below (w1.heap.size + 1 + 1 + 1 + 1) w3 W2 ∧ W2.heap[D]? = some (.deferred (some [])))))))
      (OwnFrom.and (ownFrom_pure _ _) (OwnFrom.and (Own.from (boxed_own _ _ _) _) (OwnFrom.and (Own.from (boxed_own _ _ (fun _ => .int .i64 stop)) _) (OwnFrom.and (ownFrom_below (by omega) (by omega)) (ownFrom_obj (by omega))))))
      (fun c => ownFrom_or (ownFrom_pure _ _) (OwnFrom.and (ownFrom_pure _ (fun _ => c = .exit 2)) (OwnFrom.and (Own.from (boxed_own _ _ (fun _ => .int .i64 stop)) _) (OwnFrom.and (Own.from (boxed_own _ _ (fun _ => .int .i64 stop)) _) (OwnFrom.and (ownFrom_below (by omega) (by omega)) (ownFrom_obj (by omega)))))))
      ⟨⟨List.nil_prefix, Nat.zero_le _⟩, bN4, bS4, hBW4, hk4⟩ ?assign2 ?body2 ?done2 ?stop2
    case assign2 =>
      intro l x W K hK
      simp only [updA, List.setIfInBounds_toArray, List.set_cons_succ, List.set_cons_zero] at hK ⊢
      gi_wp2
      exact hK
    case done2 =>
      rintro D2 W2 hD2 ⟨⟨_, hle⟩, bN2, bS2, hBW2, hkD⟩ hk2
      obtain rfl : stop = (cuts s).length := by omega
      have hDD : D ≠ D2 := by omega

      have cR := (hBW2.cell (p := ⟨w.heap.size, 0, none⟩) (by dsimp only; omega)).trans ((hB3.cell (p := ⟨w.heap.size, 0, none⟩) (by dsimp only; omega)).trans hR1)
      have fR := (hBW2.frozen (p := ⟨w.heap.size, 0, none⟩) (by dsimp only; omega)).trans ((hB3.frozen (p := ⟨w.heap.size, 0, none⟩) (by dsimp only; omega)).trans hF1)
      have cN2 := bN2.cell
      have cS2 := bS2.cell
      gi_wp2
      have hkA : (W2.setCell ⟨w.heap.size, 0, none⟩ (.bool true)).heap[D2]? = some (.deferred (some [])) := (Below.heap_setCell W2 ⟨w.heap.size, 0, none⟩ _ D2 (by dsimp only; omega)).trans hk2
      have hkB : ((W2.setCell ⟨w.heap.size, 0, none⟩ (.bool true)).putObj D2 (.deferred none)).heap[D]? = some (.deferred (some [])) := (putObj_heap_ne hDD).trans ((Below.heap_setCell W2 ⟨w.heap.size, 0, none⟩ _ D (by dsimp only; omega)).trans hkD)
      refine ⟨by simp, .inl ⟨_, _, rfl, run_takeDeferred hkA, ?_⟩⟩
      refine ⟨by simp, .inl ⟨_, _, rfl, run_takeDeferred hkB, ?_⟩⟩
      have c1' := World.cell?_setCell_same' W2 ⟨w.heap.size, 0, none⟩ (.bool true) (by rw [cR]; rfl)
      have c2' := cell_kept c1' (grownBy_putObj' _ D2 (.deferred none)) (fun r e => by cases e; exact ⟨_, hkA, rfl⟩)
      have c3' := cell_kept c2' (grownBy_putObj' _ D (.deferred none)) (fun r e => by cases e; exact ⟨_, hkB, rfl⟩)
      exact ⟨.bool true, by simp [results, Try.results3, go_sem, c3'], rfl, ((hBall.trans (hBW2.mono (by omega))).setCell (p := ⟨w.heap.size, 0, none⟩) (Nat.le_refl _) _).trans ((belowK_b (n₀ := w.heap.size) (w := w) (Nat.le_refl _) _ D2 _ _ (by omega) hkA rfl rfl).trans (belowK_b (n₀ := w.heap.size) (w := w) (Nat.le_refl _) _ D _ _ (by omega) hkB rfl rfl))⟩
    case stop2 =>
      rintro D2 c pre W2 hD2 hS (⟨rfl, hx⟩ | ⟨rfl, bN2, bS2, hBW2, hkD⟩) hk2
      · exact (hx hS).elim
      · have hDD : D ≠ D2 := by omega

        have cR := (hBW2.cell (p := ⟨w.heap.size, 0, none⟩) (by dsimp only; omega)).trans ((hB3.cell (p := ⟨w.heap.size, 0, none⟩) (by dsimp only; omega)).trans hR1)
        have fR := (hBW2.frozen (p := ⟨w.heap.size, 0, none⟩) (by dsimp only; omega)).trans ((hB3.frozen (p := ⟨w.heap.size, 0, none⟩) (by dsimp only; omega)).trans hF1)
        have cN2 := bN2.cell
        have cS2 := bS2.cell
        gi_wp2
        have hkA : (W2.setCell ⟨w.heap.size, 0, none⟩ (.bool true)).heap[D2]? = some (.deferred (some [])) := (Below.heap_setCell W2 ⟨w.heap.size, 0, none⟩ _ D2 (by dsimp only; omega)).trans hk2
        have hkB : ((W2.setCell ⟨w.heap.size, 0, none⟩ (.bool true)).putObj D2 (.deferred none)).heap[D]? = some (.deferred (some [])) := (putObj_heap_ne hDD).trans ((Below.heap_setCell W2 ⟨w.heap.size, 0, none⟩ _ D (by dsimp only; omega)).trans hkD)
        refine ⟨by simp, .inl ⟨_, _, rfl, run_takeDeferred hkA, ?_⟩⟩
        refine ⟨by simp, .inl ⟨_, _, rfl, run_takeDeferred hkB, ?_⟩⟩
        have c1' := World.cell?_setCell_same' W2 ⟨w.heap.size, 0, none⟩ (.bool true) (by rw [cR]; rfl)
        have c2' := cell_kept c1' (grownBy_putObj' _ D2 (.deferred none)) (fun r e => by cases e; exact ⟨_, hkA, rfl⟩)
        have c3' := cell_kept c2' (grownBy_putObj' _ D (.deferred none)) (fun r e => by cases e; exact ⟨_, hkB, rfl⟩)
        exact ⟨.bool true, by simp [results, Try.results3, go_sem, c3'], rfl, ((hBall.trans (hBW2.mono (by omega))).setCell (p := ⟨w.heap.size, 0, none⟩) (Nat.le_refl _) _).trans ((belowK_b (n₀ := w.heap.size) (w := w) (Nat.le_refl _) _ D2 _ _ (by omega) hkA rfl rfl).trans (belowK_b (n₀ := w.heap.size) (w := w) (Nat.le_refl _) _ D _ _ (by omega) hkB rfl rfl))⟩
    case body2 =>
      rintro l pre ⟨p, r⟩ W2 hl hr ⟨⟨hpre, hle⟩, bN2, bS2, hBW2, hkD⟩ hlen
      simp only [updA, List.setIfInBounds_toArray, List.set_cons_succ, List.set_cons_zero]
      have cN2 := bN2.cell
      have fN2 := bN2.frozen
      have cS2 := bS2.cell
      by_cases hst2 : pre.length = stop
      · have hd0 : ((pre.length : Int) == (stop : Int)) = true := by rw [hst2]; simp
        have HST := hide_ hst2
        clear hst2
        gi_wp2
        exact ⟨KeepsFrom.refl _ _, .inr ⟨rfl, by rw [← HST.out]; exact bN2, bS2, hBW2, hkD⟩⟩
      · have hd0 : ((pre.length : Int) == (stop : Int)) = false := by rw [beq_eq_false_iff_ne]; omega
        have hlt2 : pre.length < stop := by omega
        clear hst2
        have cP := (hBW2.cell (p := ⟨w1.heap.size, 0, none⟩) (by dsimp only; omega)).trans b1.cell
        have cQ := (hBW2.cell (p := ⟨w1.heap.size + 1, 0, none⟩) (by dsimp only; omega)).trans b2.cell
        have cR := (hBW2.cell (p := ⟨w.heap.size, 0, none⟩) (by dsimp only; omega)).trans ((hB3.cell (p := ⟨w.heap.size, 0, none⟩) (by dsimp only; omega)).trans hR1)
        have fR := (hBW2.frozen (p := ⟨w.heap.size, 0, none⟩) (by dsimp only; omega)).trans ((hB3.frozen (p := ⟨w.heap.size, 0, none⟩) (by dsimp only; omega)).trans hF1)
        obtain ⟨ad1, u1, rfl, _, hu1, hc1⟩ := ((hP.below hB3).below (hBW2.mono (by omega))).at_ hlen
        obtain ⟨ad2, u2, rfl, _, hu2, hc2⟩ := ((hN.below hB3).below (hBW2.mono (by omega))).at_ hlen
        obtain ⟨c, hcc⟩ : ∃ c, (cuts s)[pre.length]? = some c := ⟨_, List.getElem?_eq_getElem hlen⟩
        have e1 : u1 = .int .i64 (c.1 : Nat) := by rw [List.getElem?_map, hcc] at hu1; simpa using hu1.symm
        have e2 : u2 = .int .i32 c.2 := by rw [List.getElem?_map, hcc] at hu2; simpa using hu2.symm
        subst e1 e2
        have HX := hide_ (pre_next (x := (p, r)) hpre hcc)
        clear hu1 hu2 hcc hpre
        by_cases hx : p = c.1
        · subst hx
          by_cases hx2 : r = c.2
          · subst hx2
            by_cases hend : pre.length + 1 = stop
            · have hd1 : ((pre.length : Int) + 1 == (stop : Int)) = true := by rw [beq_iff_eq]; omega
              have HE := hide_ hend
              clear hend
              have cS7 := (hBW2.cell (p := ⟨w1.heap.size + 1 + 1 + 1, 0, none⟩) (by dsimp only; omega)).trans b4.cell
              have hn2 := bN2.lt
              have hs2 := bS2.lt
              have hn7 : w1.heap.size + 1 + 1 + 1 < W2.heap.size := by omega
              gi_wp2_with fail
              obtain ⟨r0, hr0⟩ := hr
              have hll : l < W2.heap.size := (Array.getElem?_eq_some_iff.1 hr0).1
              have bN5 := (bN2.set (.int .i64 ((pre.length : Int) + 1))).alloc (.cells #[.int .i64 0] 3)
              have bS5 := (bS2.other (B' := w1.heap.size + 1 + 1 + 1 + 1) (by omega) (.int .i64 ((pre.length : Int) + 1))).alloc (.cells #[.int .i64 0] 3)
              have bM5 := Boxed.new (W2.setCell ⟨w1.heap.size + 1 + 1 + 1 + 1, 0, none⟩ (.int .i64 ((pre.length : Int) + 1))) 3 (.int .i64 0)
              have hr5 : ((W2.setCell ⟨w1.heap.size + 1 + 1 + 1 + 1, 0, none⟩ (.int .i64 ((pre.length : Int) + 1))).alloc (.cells #[.int .i64 0] 3)).heap[l]? = some (.loop r0) := by
                rw [Below.heap_alloc _ _ _ (by simp; exact hll), Below.heap_setCell _ _ _ _ (by dsimp only; omega)]
                exact hr0
              have hB5 : Below (w1.heap.size + 1 + 1 + 1 + 1) W2 ((W2.setCell ⟨w1.heap.size + 1 + 1 + 1 + 1, 0, none⟩ (.int .i64 ((pre.length : Int) + 1))).alloc (.cells #[.int .i64 0] 3)) := ((Below.refl _ W2).setCell (p := ⟨w1.heap.size + 1 + 1 + 1 + 1, 0, none⟩) (Nat.le_refl _) _).alloc (by simp; omega) _
              have hK5 : KeepsFrom 0 W2 ((W2.setCell ⟨w1.heap.size + 1 + 1 + 1 + 1, 0, none⟩ (.int .i64 ((pre.length : Int) + 1))).alloc (.cells #[.int .i64 0] 3)) := ((KeepsOthers.setCell W2 _ _).trans (KeepsOthers.alloc _ _)).from 0
              have hz5 : ((W2.setCell ⟨w1.heap.size + 1 + 1 + 1 + 1, 0, none⟩ (.int .i64 ((pre.length : Int) + 1))).alloc (.cells #[.int .i64 0] 3)).heap.size = W2.heap.size + 1 := by simp
              rw [show (W2.setCell ⟨w1.heap.size + 1 + 1 + 1 + 1, 0, none⟩ (.int .i64 ((pre.length : Int) + 1))).heap.size = W2.heap.size by simp] at bM5
              obtain ⟨w5, hw5⟩ : ∃ w5, (W2.setCell ⟨w1.heap.size + 1 + 1 + 1 + 1, 0, none⟩ (.int .i64 ((pre.length : Int) + 1))).alloc (.cells #[.int .i64 0] 3) = w5 := ⟨_, rfl⟩
              obtain ⟨mb, hmb⟩ : ∃ mb, mb = W2.heap.size := ⟨_, rfl⟩
              rw [hw5] at bN5 bS5 bM5 hr5 hB5 hK5 hz5 ⊢
              rw [← hmb] at bM5 hz5 ⊢
              have hmb1 : w1.heap.size + 1 + 1 + 1 + 1 < mb := by omega
              have hmb2 : sb < mb := by omega
              have h5 : mb < w5.heap.size := by omega
              have hW5 : W2.heap.size ≤ w5.heap.size := by omega
              clear hw5 hmb hz5 cP cQ cR fR cS7 hn2 hs2 hn7 cN2 fN2 cS2
              refine rangeTN (l₀ := l) (r₀ := r0) hr5 (Bn := w1.heap.size + 1 + 1) (n₀ := w1.heap.size + 1 + 1 + 1 + 1) (s := s) (P' := 15) (Q' := 16) (by omega) rfl (by omega) (by omega) ((hB5.cell (p := ⟨w1.heap.size + 1 + 1, 0, none⟩) (by dsimp only; omega)).trans ((hBW2.cell (p := ⟨w1.heap.size + 1 + 1, 0, none⟩) (by dsimp only; omega)).trans b3.cell))
                (fun pre' Wb => pre' <+: cuts s ∧ (Boxed Wb mb 3 (.int .i64 pre'.length) ∧ (Boxed Wb (w1.heap.size + 1 + 1 + 1 + 1) 3 (.int .i64 ((pre.length : Int) + 1)) ∧ (Boxed Wb sb 3 (.int .i64 stop) ∧ (Below (w1.heap.size + 1 + 1 + 1 + 1) W2 Wb ∧ KeepsFrom 0 W2 Wb)))))
                (fun c pre' _ => c = .ret ∧ ¬ pre' <+: cuts s)
                (OwnFrom.and (ownFrom_pure _ _) (OwnFrom.and (Own.from (boxed_own _ _ _) _) (OwnFrom.and (Own.from (boxed_own _ _ (fun _ => .int .i64 ((pre.length : Int) + 1))) _) (OwnFrom.and (Own.from (boxed_own _ _ (fun _ => .int .i64 stop)) _) (OwnFrom.and (ownFrom_below (by omega) (by omega)) (ownFrom_keepsFrom (by omega)))))))
                (fun c => ownFrom_pure _ _)
                ⟨List.nil_prefix, bM5, bN5, bS5, hB5, hK5⟩ ?assign3 ?body3 ?done3 ?stop3
              case assign3 =>
                intro l x W K hK
                simp only [updA, List.setIfInBounds_toArray, List.set_cons_succ, List.set_cons_zero] at hK ⊢
                gi_wp2
                exact hK
              case stop3 =>
                rintro c pre W hS ⟨rfl, hx⟩
                exact (hx hS).elim
              case done3 =>
                rintro Wb ⟨_, bM6, bN6, bS6, hB6, hK6⟩
                have cM := bM6.cell
                have cP := (hB6.cell (p := ⟨w1.heap.size, 0, none⟩) (by dsimp only; omega)).trans ((hBW2.cell (p := ⟨w1.heap.size, 0, none⟩) (by dsimp only; omega)).trans b1.cell)
                gi_wp2
                exact ⟨kf_wider hK6 (Nat.zero_le _), ⟨hB6, kf_walks0 hK6⟩, ⟨HX.out.2 (by trivial), by simp; omega⟩, by simpa using bN6, bS6, hBW2.trans hB6, hK6.same D _ (Nat.zero_le _) hkD rfl⟩
              case body3 =>
                rintro l3 pre3 ⟨p3, r3⟩ Wb hl3 hr3 ⟨hpre3, bM6, bN6, bS6, hB6, hK6⟩ hlen3
                simp only [updA, List.setIfInBounds_toArray, List.set_cons_succ, List.set_cons_zero]
                have hB7 := hBW2.trans hB6
                have cM := bM6.cell
                have fM := bM6.frozen
                have cP := (hB7.cell (p := ⟨w1.heap.size, 0, none⟩) (by dsimp only; omega)).trans b1.cell
                have cQ := (hB7.cell (p := ⟨w1.heap.size + 1, 0, none⟩) (by dsimp only; omega)).trans b2.cell
                have cR := (hB7.cell (p := ⟨w.heap.size, 0, none⟩) (by dsimp only; omega)).trans ((hB3.cell (p := ⟨w.heap.size, 0, none⟩) (by dsimp only; omega)).trans hR1)
                have fR := (hB7.frozen (p := ⟨w.heap.size, 0, none⟩) (by dsimp only; omega)).trans ((hB3.frozen (p := ⟨w.heap.size, 0, none⟩) (by dsimp only; omega)).trans hF1)
                clear hc1 hc2
                obtain ⟨ad3, u3, ha3, _, hu3, hc3⟩ := ((hP.below hB3).below (hB7.mono (by omega))).at_ hlen3
                obtain ⟨ad4, u4, ha4, _, hu4, hc4⟩ := ((hN.below hB3).below (hB7.mono (by omega))).at_ hlen3
                injection ha3 with ha3
                injection ha4 with ha4
                subst ha3 ha4
                obtain ⟨c3, hcc3⟩ : ∃ c3, (cuts s)[pre3.length]? = some c3 := ⟨_, List.getElem?_eq_getElem hlen3⟩
                have e3 : u3 = .int .i64 (c3.1 : Nat) := by rw [List.getElem?_map, hcc3] at hu3; simpa using hu3.symm
                have e4 : u4 = .int .i32 c3.2 := by rw [List.getElem?_map, hcc3] at hu4; simpa using hu4.symm
                subst e3 e4
                have HX3 := hide_ (pre_next (x := (p3, r3)) hpre3 hcc3)
                clear hu3 hu4 hcc3 hpre3 bN5 bS5 bM5 hr5 hB5 hK5
                by_cases hx3 : p3 = c3.1
                · subst hx3
                  by_cases hx4 : r3 = c3.2
                  · subst hx4
                    gi_wp2
                    exact ⟨(KeepsOthers.setCell _ _ _).from _, ⟨(Below.refl _ Wb).setCell (p := ⟨mb, 0, none⟩) (by dsimp only; omega) _, KeepsWalks.setCell _ _ _⟩, HX3.out.2 (by trivial), by simpa using bM6.set (.int .i64 ((pre3.length : Int) + 1)), bN6.other (by omega) _, bS6.other (by omega) _, hB6.setCell (p := ⟨mb, 0, none⟩) (by dsimp only; omega) _, hK6.trans ((KeepsOthers.setCell _ _ _).from _)⟩
                  · have hd : (r3 != c3.2) = true := bne_iff_ne.2 hx4
                    have HX4 := hide_ hx4
                    clear hx4
                    gi_wp2
                    exact ⟨(KeepsOthers.setCell _ _ _).from _, rfl, fun hp => HX4.out (congrArg Prod.snd (HX3.out.1 hp))⟩
                · have hd : ((p3 : Int) != (c3.1 : Nat)) = true := bne_iff_ne.2 (by omega)
                  have HX4 := hide_ hx3
                  clear hx3
                  gi_wp2
                  exact ⟨(KeepsOthers.setCell _ _ _).from _, rfl, fun hp => HX4.out (congrArg Prod.fst (HX3.out.1 hp))⟩
            · have hd1 : ((pre.length : Int) + 1 == (stop : Int)) = false := by rw [beq_eq_false_iff_ne]; omega
              have HE := hide_ hend
              clear hend
              have hs2 := bS2.lt
              gi_wp2
              exact ⟨(KeepsOthers.setCell _ _ _).from _, ⟨(Below.refl _ W2).setCell (p := ⟨w1.heap.size + 1 + 1 + 1 + 1, 0, none⟩) (Nat.le_refl _) _, KeepsWalks.setCell _ _ _⟩, ⟨HX.out.2 (by trivial), by simp; omega⟩, by simpa using bN2.set (.int .i64 ((pre.length : Int) + 1)), bS2.other (by omega) _, hBW2.setCell (p := ⟨w1.heap.size + 1 + 1 + 1 + 1, 0, none⟩) (Nat.le_refl _) _, (Below.heap_setCell W2 ⟨w1.heap.size + 1 + 1 + 1 + 1, 0, none⟩ _ D (by dsimp only; omega)).trans hkD⟩
          · have hd : (r != c.2) = true := bne_iff_ne.2 hx2
            have HX2 := hide_ hx2
            clear hx2
            gi_wp2
            exact ⟨(KeepsOthers.setCell _ _ _).from _, .inl ⟨rfl, fun hp => HX2.out (congrArg Prod.snd (HX.out.1 hp))⟩⟩
        · have hd : ((p : Int) != (c.1 : Nat)) = true := bne_iff_ne.2 (by omega)
          have HX2 := hide_ hx
          clear hx
          gi_wp2
          exact ⟨(KeepsOthers.setCell _ _ _).from _, .inl ⟨rfl, fun hp => HX2.out (congrArg Prod.fst (HX.out.1 hp))⟩⟩
end Go.Proofs.Ytohpnalklbjkoaa
