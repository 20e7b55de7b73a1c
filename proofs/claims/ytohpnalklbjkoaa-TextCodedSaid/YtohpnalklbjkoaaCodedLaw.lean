/-
  The walk of the statement TextCoded.
-/
import Derived.Test.YtohpnalklbjkoaaIterB
import Derived.Laws.EntriesVeiled
import Derived.Test.YtohpnalklbjkoaaCoded
import Derived.Test.YtohpnalklbjkoaaRoundQuiet
namespace Go.Proofs.Ytohpnalklbjkoaa
open Go.RowKit Go.PlainAid Go.Shelf
attribute [local go_sem] Oper.semAt_some

theorem coded_at (s : ByteArray) (i v : Nat) (w : World) (hr : isRune v) (hm : Matches s i v) :
    Calls Try.prog 17 #[.int .i32 v] w fun e w' => e = .returned (.slice (some ⟨w.heap.size, 0, none⟩) (codeL v).length (codeL v).length) ∧
      (∀ k : Nat, k < (codeL v).length → w'.cell? ⟨w.heap.size, k, none⟩ = some (.int .u8 (bn s (i + k) : Nat))) ∧ w.alloc (.cells (n8s (codeL v)).toArray 5) = w' := by
  refine (coded_any v w hr.1).mono ?_
  rintro e w' ⟨rfl, rfl⟩
  refine ⟨rfl, fun k hk => ?_, rfl⟩
  rw [World.cell?, World.alloc_heap_new]
  have h := hm.2 k hk
  rw [List.getElem?_eq_getElem hk] at h
  simp only [Option.getD_some] at h
  simp [hk, h]

/-- where the text that is told ends -/
def endO (s : ByteArray) (pre : List (Nat × Int)) : Nat := match pre.getLast? with | none => 0 | some x => x.1 + cutN s x.1
theorem endO_nil (s : ByteArray) : endO s [] = 0 := rfl
theorem endO_snoc (s : ByteArray) (pre : List (Nat × Int)) (x : Nat × Int) : endO s (pre ++ [x]) = x.1 + cutN s x.1 := by simp [endO]
theorem lost_hi (s : ByteArray) (i : Nat) (h : lost s i) : 128 ≤ bn s i := by
  have h1 := h.1
  rw [Lib.decode_at] at h1
  unfold bn
  rcases Nat.lt_or_ge (s.get! i).toNat 128 with c | c
  · exfalso
    unfold Lib.decodeN at h1
    rw [if_pos c] at h1
    simp only at h1
    omega
  · exact c
theorem cuts_get (s : ByteArray) (pre : List (Nat × Int)) (i : Nat) (h : cuts s = pre ++ cutsAt s i) (hl : pre.length < (cuts s).length) : i < s.size ∧ (cuts s)[pre.length]? = some (i, cutR s i) ∧ cuts s = (pre ++ [(i, cutR s i)]) ++ cutsAt s (i + cutN s i) := by
  have hi : i < s.size := by
    rcases Nat.lt_or_ge i s.size with c | c
    · exact c
    · rw [cutsAt_ge s i c] at h
      rw [h] at hl
      simp at hl
  refine ⟨hi, ?_, ?_⟩
  · rw [h, cutsAt_lt s i hi]; simp
  · rw [h, cutsAt_lt s i hi]; simp
theorem coded_next {s : ByteArray} {pre : List (Nat × Int)} {p : Nat} {r : Int} (hN : cuts s = (pre ++ [(p, cutR s p)]) ++ cutsAt s (p + cutN s p)) (hr : r = cutR s p) (hf : p + cutN s p ≤ s.size) :
    cuts s = (pre ++ [(p, r)]) ++ cutsAt s (endO s (pre ++ [(p, r)])) ∧ endO s (pre ++ [(p, r)]) ≤ s.size := by
  subst hr
  rw [endO_snoc]
  exact ⟨hN, hf⟩

set_option maxRecDepth 100000 in
set_option maxHeartbeats 4000000 in
theorem TextCoded_walk (s : ByteArray) (w : World) (hz : s.size ≤ 140737488351232) :
    Calls Try.prog 4 #[.string s] w fun e w' => e = .returned (.bool true) ∧ Below w.heap.size w w' := by
  refine (callsIn_wide (n := 30)).1 ?_
  refine callsIn_of_wp_marks Try.func4 rfl trivial ?_ rfl
  simp only [Try.ntmps4, List.size_toArray, List.length_cons, List.length_nil, Nat.reduceAdd, Nat.reduceSub, Array.replicate_succ, Array.replicate_zero, List.push_toArray, List.append_toArray, List.nil_append, List.cons_append]
  have hfn := func_not_nil
  have mixed : Try.prog.follows .mixedOrders = true := by kernel_rfl
  gi_wp2_with fail
  refine ⟨trivial, ?_⟩
  refine (callsIn_wide.2 (Runes_any s _)).mono ?_
  rintro e w2 ⟨rfl, rfl⟩
  gi_wp2_with fail
  have b1 := (((Boxed.new w 9 (.string s)).alloc (.cells #[.bool false] 4)).alloc (.cells #[.int .i64 0] 3)).alloc (.cells #[.string s] 9)
  have b2 := ((Boxed.new (w.alloc (.cells #[.string s] 9)) 4 (.bool false)).alloc (.cells #[.int .i64 0] 3)).alloc (.cells #[.string s] 9)
  have b3 := (Boxed.new ((w.alloc (.cells #[.string s] 9)).alloc (.cells #[.bool false] 4)) 3 (.int .i64 0)).alloc (.cells #[.string s] 9)
  have b4 := Boxed.new (((w.alloc (.cells #[.string s] 9)).alloc (.cells #[.bool false] 4)).alloc (.cells #[.int .i64 0] 3)) 9 (.string s)
  simp only [World.size_alloc] at b2 b3 b4
  have hB3 : Below w.heap.size w ((((w.alloc (.cells #[.string s] 9)).alloc (.cells #[.bool false] 4)).alloc (.cells #[.int .i64 0] 3)).alloc (.cells #[.string s] 9)) := (((((Below.refl _ w).alloc (Nat.le_refl _) _).alloc (by simp) _).alloc (by simp; omega) _).alloc (by simp; omega) _)
  have hsz : ((((w.alloc (.cells #[.string s] 9)).alloc (.cells #[.bool false] 4)).alloc (.cells #[.int .i64 0] 3)).alloc (.cells #[.string s] 9)).heap.size = w.heap.size + 1 + 1 + 1 + 1 := by simp
  obtain ⟨w3, hw3⟩ : ∃ w3, (((w.alloc (.cells #[.string s] 9)).alloc (.cells #[.bool false] 4)).alloc (.cells #[.int .i64 0] 3)).alloc (.cells #[.string s] 9) = w3 := ⟨_, rfl⟩
  rw [hw3] at b1 b2 b3 b4 hB3 hsz ⊢
  clear hw3
  have HSZ := hide_ hsz
  have hnb : w.heap.size + 1 + 1 + 1 < w3.heap.size := by omega
  clear hsz
  refine rangeB (Bn := w.heap.size + 1 + 1 + 1) (s := s) (P' := 5) (Q' := 6) (by omega) rfl (by omega) b4.cell
    (fun pre W => (cuts s = pre ++ cutsAt s (endO s pre) ∧ endO s pre ≤ s.size) ∧ (Boxed W (w.heap.size + 1 + 1) 3 (.int .i64 (endO s pre)) ∧ Below (w.heap.size + 1 + 1) w3 W))
    (fun c pre _ => c = .ret ∧ ¬ pre <+: cuts s)
    (OwnFrom.and (ownFrom_pure _ _) (OwnFrom.and (Own.from (boxed_own _ _ _) _) (ownFrom_below (by omega) (by omega))))
    (fun c => ownFrom_pure _ _)
    ⟨⟨cuts_at s, Nat.zero_le _⟩, b3, Below.refl _ _⟩ ?assign1 ?body1 ?done1 ?stop1
  case assign1 =>
    intro l x W K hK
    simp only [updA, List.setIfInBounds_toArray, List.set_cons_succ, List.set_cons_zero] at hK ⊢
    gi_wp2
    exact hK
  case stop1 =>
    rintro D c pre W hD hS ⟨rfl, hx⟩ hk
    exact (hx hS).elim
  case done1 =>
    rintro D W hD ⟨⟨hcs, hle⟩, bN, hBW⟩ hk
    have he : endO s (cuts s) = s.size := by
      rcases Nat.lt_or_ge (endO s (cuts s)) s.size with c | c
      · rw [cutsAt_lt s _ c] at hcs
        have := congrArg List.length hcs
        simp at this
      · omega
    rw [he] at bN
    clear hcs he hle
    have cN := bN.cell
    have cS := (hBW.cell (p := ⟨w.heap.size, 0, none⟩) (by dsimp only; omega)).trans b1.cell
    have cR := (hBW.cell (p := ⟨w.heap.size + 1, 0, none⟩) (by dsimp only; omega)).trans b2.cell
    have fR := (hBW.frozen (p := ⟨w.heap.size + 1, 0, none⟩) (by dsimp only; omega)).trans b2.frozen
    gi_wp2
    have hkA : (W.setCell ⟨w.heap.size + 1, 0, none⟩ (.bool true)).heap[D]? = some (.deferred (some [])) := (Below.heap_setCell W ⟨w.heap.size + 1, 0, none⟩ _ D (by dsimp only; omega)).trans hk
    refine ⟨by simp, .inl ⟨_, _, rfl, run_takeDeferred hkA, ?_⟩⟩
    have c1' := World.cell?_setCell_same' W ⟨w.heap.size + 1, 0, none⟩ (.bool true) (by rw [cR]; rfl)
    have c2' := cell_kept c1' (grownBy_putObj' _ D (.deferred none)) (fun r e => by cases e; exact ⟨_, hkA, rfl⟩)
    exact ⟨.bool true, by simp [results, Try.results4, go_sem, c2'], rfl, ((hB3.trans (hBW.mono (by omega))).setCell (p := ⟨w.heap.size + 1, 0, none⟩) (by dsimp only; omega) _).trans (belowK_b (n₀ := w.heap.size) (w := w) (Nat.le_refl _) _ D _ _ (by omega) hkA rfl rfl)⟩
  case body1 =>
    rintro l pre ⟨p, r⟩ W hmem hl hr ⟨⟨hcs, hle⟩, bN, hBW⟩ hlen
    simp only [updA, List.setIfInBounds_toArray, List.set_cons_succ, List.set_cons_zero]
    obtain ⟨hpl, hrr⟩ := cuts_mem s _ hmem
    simp only at hpl hrr
    obtain ⟨hi, hcc, hnext⟩ := cuts_get s pre _ hcs hlen
    have HX := hide_ (pre_next (x := (p, r)) ⟨_, hcs.symm⟩ hcc)
    obtain ⟨i, hii⟩ : ∃ i, i = endO s pre := ⟨_, rfl⟩
    rw [← hii] at hi hnext bN HX
    have HN := hide_ hnext
    have HE := hide_ (endO_snoc s pre (p, r))
    have hnf := hide_ (cutN_fits s i hi)
    have cN := bN.cell
    have fN := bN.frozen
    have cS := (hBW.cell (p := ⟨w.heap.size, 0, none⟩) (by dsimp only; omega)).trans b1.cell
    have cR := (hBW.cell (p := ⟨w.heap.size + 1, 0, none⟩) (by dsimp only; omega)).trans b2.cell
    have fR := (hBW.frozen (p := ⟨w.heap.size + 1, 0, none⟩) (by dsimp only; omega)).trans b2.frozen
    have hWs := bN.lt
    clear hcs hle hcc hnext hmem hii hlen
    by_cases hx : p = i
    · subst hx
      have hbt := get_bt s
      have hb0 := bt_nonneg s
      have hb1 := bt_le s
      by_cases hlo : lost s p
      · have h128 := lost_hi s p hlo
        have hrb : r = -1 - bt s p := by rw [hrr]; unfold cutR; rw [if_pos hlo, bt_eq s p hi]
        have hbb : 128 ≤ bt s p := by rw [bt_eq s p hi]; omega
        have hb0 := hb0 p
        have hb1 := hb1 p
        have HC := hide_ (show cutN s p = 1 from hlo.2)
        have HRR := hide_ hrr
        subst hrb
        clear hrr h128 hpl
        gi_wp2
        have hnx := coded_next HN.out HRR.out hnf.out
        have hbx : Value.int .i64 ((p : Int) + 1) = .int .i64 (endO s (pre ++ [(p, -1 - bt s p)]) : Nat) := by rw [endO_snoc, HC.out]; simp
        exact ⟨(KeepsOthers.setCell _ _ _).from _, KpB_set _ _ _ (by omega), hnx, hbx ▸ bN.set _, hBW.setCell (p := ⟨w.heap.size + 1 + 1, 0, none⟩) (Nat.le_refl _) _⟩
      · obtain ⟨hisr, hmat, hcn⟩ := cut_code s p hi hlo
        obtain ⟨v, hv⟩ : ∃ v, v = (Utf8.decode s p).1 := ⟨_, rfl⟩
        rw [← hv] at hisr hmat hcn
        have hrb : r = (v : Int) := by rw [hrr, cutR, if_neg hlo, hv]
        have hcall := fun W => coded_at s p v W hisr hmat
        obtain ⟨hl0, hl4⟩ := codeL_len v
        have hml := hmat.1
        obtain ⟨L, hL⟩ : ∃ L, L = (codeL v).length := ⟨_, rfl⟩
        rw [← hL] at hcn hl0 hl4 hml
        simp only [← hL] at hcall
        obtain ⟨x, hxv⟩ : ∃ x : Int, x = (v : Int) := ⟨_, rfl⟩
        rw [← hxv] at hrb
        simp only [← hxv] at hcall
        have hx0 : 0 ≤ x := by omega
        have hx1 : x ≤ 1114111 := by have := hisr.1; omega
        have hxs : x < 55296 ∨ 57343 < x := by have := hisr.2; omega
        have HC := hide_ hcn
        have HRR := hide_ hrr
        have HCALL := hide_ hcall
        subst hrb
        clear hrr hpl hcall hisr hmat hcn hv hxv hL hlo
        rcases hxs with hxs | hxs
        all_goals
          gi_wp2_with fail
          refine ⟨trivial, ?_⟩
          refine (CallsIn.inRound l (callsIn_wide.2 (HCALL.out _))).mono ?_
          rintro e w4 ⟨rfl, hcl, hw4⟩
          have bN4 : Boxed w4 (w.heap.size + 1 + 1) 3 (.int .i64 p) := by rw [← hw4]; exact bN.alloc _
          have hBW4 : Below (w.heap.size + 1 + 1) w3 w4 := by rw [← hw4]; exact hBW.alloc (by omega) _
          have hko : KeepsOthers W w4 := by rw [← hw4]; exact KeepsOthers.alloc _ _
          have hkp : KpB (w.heap.size + 1 + 1 + 1) W w4 := by rw [← hw4]; exact KpB_alloc _ _
          have cN4 := bN4.cell
          have fN4 := bN4.frozen
          have cS4 := (hBW4.cell (p := ⟨w.heap.size, 0, none⟩) (by dsimp only; omega)).trans b1.cell
          have hz4 := bN4.lt
          clear hw4 cN fN cS cR fR
          have HKO := hide_ hko
          have HKP := hide_ hkp
          have HCL := hide_ hcl
          clear hko hkp hcl
          gi_wp2_with fail
          gi_loopw [8] (fun k wr => ∃ kk : Nat, k = .int .i64 kk ∧ kk ≤ L ∧ ∃ nq, wr = w4.drewN nq) (fun k _ => L - (intOf k).toNat)
          case atStart => exact ⟨0, rfl, Nat.zero_le _, 0, rfl⟩
          case round =>
            obtain ⟨kk, rfl, hk, nq, rfl⟩ := hrel
            by_cases hlt : kk < L
            · have hidx : p + kk < s.size := by omega
              have hc : w4.cell? ⟨W.heap.size, kk, none⟩ = some (.int .u8 (bt s (p + kk))) := by rw [bt_eq s _ hidx]; exact HCL.out kk hlt
              have hw1 : IntKind.i64.wrap ((p : Int) + kk) = (p : Int) + kk := by rw [IntKind.wrap_i64]; omega
              have hw2 : (0 : Int) ≤ (p : Int) + kk := by omega
              have hw3 : ((p : Int) + kk).toNat = p + kk := by omega
              have hw4 : (p : Int) + kk < (s.size : Int) := by omega
              have hw5 : decide ((s.size : Int) ≤ (p : Int) + kk) = false := by simp; omega
              gi_wp2_with fail
              refine wpIn_region_quiet_round (F := Fence.wide) rfl mixed (by kernel_rfl) (by kernel_rfl) ?_
              repeat (gi_big_quiet_step (fail))
              refine wpQuietIn_nil ?_
              rintro _ ⟨nq', rfl⟩
              gi_wp2
              go_roundw
              case rel => exact ⟨kk + 1, by go_num, by omega, _, rfl⟩
              case measure => simp [intOf]; omega
            · obtain rfl : kk = L := by omega
              gi_wp2
              have hnx := coded_next HN.out HRR.out hnf.out
              have hbx : Value.int .i64 ((p : Int) + kk) = .int .i64 (endO s (pre ++ [(p, r)]) : Nat) := by rw [endO_snoc, HC.out]; simp
              have hk1 : KeepsFrom w3.heap.size W (w4.drewN nq) := ⟨HKO.out.size, (HKO.out.from _).same⟩
              have hk2 : KpB (w.heap.size + 1 + 1 + 1) W (w4.drewN nq) := ⟨HKP.out.1, HKP.out.2.size, HKP.out.2.same⟩
              have hk3 : Boxed (w4.drewN nq) (w.heap.size + 1 + 1) 3 (.int .i64 p) := bN4
              have hk4 : Below (w.heap.size + 1 + 1) w3 (w4.drewN nq) := ⟨hBW4.os, hBW4.tape, hBW4.output, hBW4.size, hBW4.block⟩
              exact ⟨hk1.trans ((KeepsOthers.setCell _ _ _).from _), KpB_t hk2 (KpB_set _ _ _ (by omega)), hnx, hbx ▸ hk3.set _, hk4.setCell (p := ⟨w.heap.size + 1 + 1, 0, none⟩) (Nat.le_refl _) _⟩
    · have hd : ((p : Int) != (i : Nat)) = true := bne_iff_ne.2 (by omega)
      have HX2 := hide_ hx
      clear hx hrr
      gi_wp2
      exact ⟨(KeepsOthers.setCell _ _ _).from _, rfl, fun hp => HX2.out (congrArg Prod.fst (HX.out.1 hp))⟩
end Go.Proofs.Ytohpnalklbjkoaa
