/-
  A segment whose log is off: write and Write.
-/
import Derived.Test.YtcfpclhoockcfaaM14
namespace Go.Proofs.Ytcfpclhoockcfaa
open Go.RowKit
set_option linter.unusedVariables false

theorem run_copy_s {P : Program} {w : World} {B : Nat} {e elem : TypeId} {n c g off dLen dCap sLen sCap : Nat} {sp : Option Addr} {xs cs : List Value} (dT sT ty : TypeId)
    (hu : P.underlying dT = some (.slice elem)) (hsz : (P.info? elem).map (·.size) = some 1) (hrow : w.ownsRow B e 1 (.slice (some ⟨g, 0, none⟩) n c) n xs)
    (hn : cs.length = Nat.min sLen dLen) (hsrc : 0 < cs.length → ∃ ad, sp = some ad ∧ ∀ j v, cs[j]? = some v → w.cell? (ad.add j) = some v) (hfit : off + cs.length ≤ n) (h1 : ∀ v ∈ cs, v.oneCell' = true) :
    ∃ w', (Builtin.copy_ #[dT, sT] ty #[.slice (some ⟨g, off, none⟩) dLen dCap, .slice sp sLen sCap]).run P w = .ok (goInt cs.length) w' ∧
      w'.ownsRow B e 1 (.slice (some ⟨g, 0, none⟩) n c) n (splice xs off cs) ∧ w.grownBy w' (some g) := by
  by_cases h0 : cs.length = 0
  · obtain rfl : cs = [] := List.eq_nil_of_length_eq_zero h0
    have hrun := run_copy_none (P := P) w dT sT ty elem (some ⟨g, off, none⟩) sp dLen dCap sLen sCap hu hsz (by simpa using hn.symm)
    refine ⟨w, hrun, ?_, World.grownBy.refl w _⟩
    have e1 : splice xs off [] = xs := by simp [splice]
    rw [e1]
    exact hrow
  · obtain ⟨ad, rfl, hcell⟩ := hsrc (by omega)
    obtain ⟨hxl, hro⟩ := hrow
    rcases hro with ⟨hv, _⟩ | ⟨g', cap, cur, hv, hbg, hg, hnc, hcm, hcs, htk⟩
    · cases hv
    · injection hv with hv1 _ hv3
      injection hv1 with hv1
      injection hv1 with hv1
      subst hv1 hv3
      simp only [Nat.mul_one] at hxl hcs htk
      have hl : cur.toList.length = c := by simpa using hcs
      have hrun := run_copy_row (P := P) w dT sT ty elem g off dLen dCap ad sLen sCap cur e cs hu hsz hg hn hcell (by omega) h1
      have hgr : w.grownBy (w.setRow g (cur.toList.take off ++ cs ++ cur.toList.drop (off + cs.length)).toArray) (some g) :=
        ⟨rfl, rfl, rfl, by simp [World.setRow], fun k' _ hk' => setRow_other w g k' _ (fun h => hk' (by rw [h]))⟩
      refine ⟨_, hrun, ⟨?_, .inr ⟨g, c, _, rfl, hbg, setRow_heap w g _ _ e _ hg, hnc, hcm, ?_, ?_⟩⟩, hgr⟩
      · rw [length_splice _ _ _ (by omega)]
        omega
      · simp
        omega
      · rw [Nat.mul_one, List.toList_toArray, take_splice _ _ _ _ hfit (by omega), htk]
theorem step_copy_s {P : Program} {ops : Array Oper} {o : Oper} {a : Act} {w : World} {K : Act → World → Prop} {Q : Exit → Act → World → Prop} {E : Prop} (hgd : o.guard = none) (d s : Operand) (dT sT : TypeId)
    (ho : o.op = .call { callee := .builtin .copy, args := #[d, s], argTypes := #[dT, sT] }) (elem : TypeId) (hu : P.underlying dT = some (.slice elem)) (hsz : (P.info? elem).map (·.size) = some 1)
    (g off dLen dCap sLen sCap : Nat) (sp : Option Addr) (hd : a.eval d = .slice (some ⟨g, off, none⟩) dLen dCap) (hs : a.eval s = .slice sp sLen sCap)
    (B : Nat) (e : TypeId) (n c : Nat) (xs cs : List Value) (hrow : w.ownsRow B e 1 (.slice (some ⟨g, 0, none⟩) n c) n xs)
    (hn : cs.length = Nat.min sLen dLen) (hsrc : 0 < cs.length → ∃ ad, sp = some ad ∧ ∀ j v, cs[j]? = some v → w.cell? (ad.add j) = some v) (hfit : off + cs.length ≤ n) (h1 : ∀ v ∈ cs, v.oneCell' = true)
    (h : ∀ w', w'.ownsRow B e 1 (.slice (some ⟨g, 0, none⟩) n c) n (splice xs off cs) → w.grownBy w' (some g) → K (a.put o.dst (goInt cs.length)) w') :
    if Region.wanted o (yielded ops a.tmps) = true then Oper.wp P o a w K Q else E := by
  have hw : Region.wanted o (yielded ops a.tmps) = true := by simp [Region.wanted, hgd]
  rw [if_pos hw]
  obtain ⟨w', hrun, h2, h3⟩ := run_copy_s (P := P) (dLen := dLen) (dCap := dCap) (sLen := sLen) (sCap := sCap) dT sT o.type hu hsz hrow hn hsrc hfit h1
  unfold Oper.wp
  simp [execOp, ho, resolve, invoke, builtin, hd, hs, hrun, Result.andThen]
  exact h w' h2 h3
section
variable {W : World} {g d N c : Nat} {xs : List Int}
set_option maxRecDepth 100000 in
set_option maxHeartbeats 1000000 in
theorem write_s (a : Int) (A : Option Addr) (n cb : Nat) (bs : List Int) (h : MemAt W g d N c xs) (h0 : 0 ≤ a) (h1 : a ≤ 4294967295) (hn : n ≤ 4096) (hr : Reads W W.heap.size 1 A n (u8s bs)) (hA : ∀ ad, A = some ad → ad.block ≠ d) (hok : bytesOk bs) :
    Calls Try.prog 65 #[.pointer (some ⟨g, 0, none⟩), .int .u32 a, .slice A n cb] W fun e W' => e = .returned (.tuple #[]) ∧ Laid W W' g d N c (puts N a bs xs n) := by
  have hN := h.seg.pow
  have hdl := h.dl
  have hgl := h.gl
  have hbl : bs.length = n := by simpa using hr.1
  obtain ⟨W2, hW2⟩ : ∃ W2, W2 = ((W.alloc (.cells #[.pointer (some ⟨g, 0, none⟩)] 28)).alloc (.cells #[.slice A n cb] 23)) := ⟨_, rfl⟩
  have hb2 : Below W.heap.size W W2 := by rw [hW2]; exact ((Below.refl _ _).alloc (Nat.le_refl _) _).alloc (by simp) _
  have hk1 : Blk W2 W.heap.size 28 #[.pointer (some ⟨g, 0, none⟩)] := by rw [hW2]; exact (Blk.new W _ _).alloc _
  have hk2 : Blk W2 (W.heap.size + 1) 23 #[.slice A n cb] := by
    rw [hW2]
    have := Blk.new (W.alloc (.cells #[.pointer (some ⟨g, 0, none⟩)] 28)) 23 #[.slice A n cb]
    rw [World.size_alloc] at this
    exact this
  have hm2 := h.below hb2
  have hpl := hide_ (plain_any g d N c n false a W2 hm2.c0 hm2.c1 hN h0 h1 (by omega))
  have HEach := hide_ (fun nq : Nat => stays_write g d N c n (W.heap.size + 1) W.heap.size true a (fun k W1 => Laid W W1 g d N c (puts N a bs xs k) ∧ Blk W1 W.heap.size 28 #[.pointer (some ⟨g, 0, none⟩)] ∧ Blk W1 (W.heap.size + 1) 23 #[.slice A n cb]) (W2.drewN nq)
    ⟨⟨h.below (below_draws2 hb2 nq), grown_of_below (below_draws2 hb2 nq)⟩, hk1.drewN nq, hk2.drewN nq⟩ hN (by omega)
    (fun k W1 h1 => ⟨h1.1.1.c0, h1.1.1.c1⟩)
    (fun k hk W1 h1 => by
      obtain ⟨ad, u, rfl, hab, hu, hcu⟩ := hr.at_ hk
      rw [u8s_get (by omega)] at hu
      injection hu with hu
      subst hu
      have had := hA ad rfl
      have hcu' : W1.cell? (ad.add k) = some (.int .u8 (bs[k]?.getD 0)) := h1.1.2.cell hcu (by rw [block_of_add]; intro e; injection e with e; exact had e)
      refine (write1_s k n cb ad (plc N a k) (bs[k]?.getD 0) h1.1.1 (h1.2.1.cell 0) (by omega) (h1.2.2.cell 0) (by omega) hk hcu' had (plc_bd hN a k).1 (plc_bd hN a k).2).mono ?_
      rintro e W' ⟨rfl, rfl⟩
      have hy : 0 ≤ (bs[k]?.getD 0) ∧ (bs[k]?.getD 0) < 256 := by
        have := gt_bd hok (k : Int)
        rwa [gt_nat] at this
      exact ⟨rfl, h1.1.put (plc_bd hN a k).1 (plc_bd hN a k).2 hy, (h1.2.1.far (by show W.heap.size ≠ d; omega) _).drew, (h1.2.2.far (by show W.heap.size + 1 ≠ d; omega) _).drew⟩))
  by_cases hp : decide (a % (N : Int) + n ≤ (N : Int)) = true
  · rw [hp] at hpl
    have hfit : a % (N : Int) + n ≤ (N : Int) := by simpa using hp
    obtain ⟨p, hpp⟩ : ∃ p : Nat, a % (N : Int) = (p : Int) := Int.eq_ofNat_of_zero_le (Int.emod_nonneg _ (by have := hN.bd; omega))
    rw [hpp] at hfit
    have hpN : p < N := by have := Int.emod_lt_of_pos a (show (0 : Int) < N by have := hN.bd; omega); omega
    have HP := hide_ (fun (W' : World) (h : W'.cell? ⟨g, 0, none⟩ = some (.slice (some ⟨d, 0, none⟩) N c)) => place_any g d N c a W' h hN h0 h1)
    rw [hpp] at HP
    have HPS := hide_ (show puts N a bs xs n = splice xs p bs by rw [puts_splice hN h.len p hpp n (by omega) (by omega), List.take_of_length_le (by omega)])
    obtain ⟨_, cap', hcap, hNc, _⟩ := ownsRow_slice h.own
    have hcap2 : Value.slice (some ⟨d, 0, none⟩) N c = .slice _ N cap' := hcap
    injection hcap2 with _ _ hcap3
    subst hcap3
    have hcp : ¬ c = p := by have : N ≤ c := hNc; omega
    have hd0 : (0 : Int) ≤ (p : Int) := by omega
    have hd1 : (p : Int) ≤ (N : Int) := by omega
    have hus : (u8s bs).length = n := by simp [hbl]
    have HALL := hide_ (fun nq : Nat => (⟨h.below (below_draws2 hb2 nq), grown_of_below (below_draws2 hb2 nq), hr.below (below_draws2 hb2 nq), hk1.drewN nq, hk2.drewN nq⟩ : MemAt (W2.drewN nq) g d N c xs ∧ W.grownBy (W2.drewN nq) (some d) ∧ Reads (W2.drewN nq) W.heap.size 1 A n (u8s bs) ∧ Blk (W2.drewN nq) W.heap.size 28 #[.pointer (some ⟨g, 0, none⟩)] ∧ Blk (W2.drewN nq) (W.heap.size + 1) 23 #[.slice A n cb]))
    have HOK := hide_ (show bytesOk (puts N a bs xs n) from puts_ok hok h.ok n)
    have HNE := hide_ (show g ≠ d ∧ W.heap.size ≠ d ∧ W.heap.size + 1 ≠ d from ⟨h.ne, by omega, by omega⟩)
    have HSEG := hide_ h.seg
    have HLEN := hide_ (show (puts N a bs xs n).length = N by rw [puts_len, h.len])
    have HUS := hide_ hus
    clear HEach hb2 hk1 hk2 hm2 h hr hA hok hp hN hus hbl
    subst hW2
    go_enter Try.func65, Try.ntmps65
    go_wp2_with (go_at_call 79; refine hpl.out.mono ?_; rintro e w' ⟨rfl, nq, rfl⟩)
    obtain ⟨h3, hg3, hr3, hk3, hk4⟩ := HALL.out nq
    generalize (World.drewN ((W.alloc (.cells #[.pointer (some ⟨g, 0, none⟩)] 28)).alloc (.cells #[.slice A n cb] 23)) nq) = W3 at h3 hg3 hr3 hk3 hk4 ⊢
    have c0 := h3.c0
    have c1 : W3.cell? ⟨W.heap.size, 0, none⟩ = some (.pointer (some ⟨g, 0, none⟩)) := hk3.cell 0
    have c2 : W3.cell? ⟨W.heap.size + 1, 0, none⟩ = some (.slice A n cb) := hk4.cell 0
    have HSRC := hide_ (show 0 < (u8s bs).length → ∃ ad, A = some ad ∧ ∀ j v, (u8s bs)[j]? = some v → W3.drew.cell? (ad.add j) = some v from fun h => by
      obtain ⟨ad, e, _, hc⟩ := hr3.2 (by rw [HUS.out] at h; exact h)
      exact ⟨ad, e, hc⟩)
    have HOWN := hide_ (show W3.drew.ownsRow 0 5 1 (.slice (some ⟨d, 0, none⟩) N c) N (u8s xs) from h3.own)
    have H3 := hide_ h3
    have HG3 := hide_ (grown_draws hg3 1)
    clear h3 hg3 hr3 hk3 hk4
    have HFAR : Hid (∀ w9 : World, W3.drew.grownBy w9 (some d) → w9.cell? ⟨g, 0, none⟩ = some (.slice (some ⟨d, 0, none⟩) N c) ∧ w9.cell? ⟨W.heap.size, 0, none⟩ = some (.pointer (some ⟨g, 0, none⟩)) ∧ w9.cell? ⟨W.heap.size + 1, 0, none⟩ = some (.slice A n cb)) := hide_ fun w9 h9 =>
      ⟨h9.cell (a := ⟨g, 0, none⟩) c0 (fun e => HNE.out.1 (Option.some.inj e)), h9.cell (a := ⟨W.heap.size, 0, none⟩) c1 (fun e => HNE.out.2.1 (Option.some.inj e)), h9.cell (a := ⟨W.heap.size + 1, 0, none⟩) c2 (fun e => HNE.out.2.2 (Option.some.inj e))⟩
    go_region_held3 (fun W' => W'.cell? ⟨g, 0, none⟩ = some (.slice (some ⟨d, 0, none⟩) N c) ∧ W'.cell? ⟨W.heap.size, 0, none⟩ = some (.pointer (some ⟨g, 0, none⟩)) ∧ W'.cell? ⟨W.heap.size + 1, 0, none⟩ = some (.slice A n cb))
      (first | exact ⟨c0, c1, c2⟩ | exact HFAR.out _ hg9)
      ((first
        | (go_at_call 80; go_split_ands; refine (HP.out _ (by assumption)).mono ?_; rintro e w' ⟨rfl, rfl⟩)
        | (refine step_copy_s (by rfl) _ _ _ _ (by rfl) 5 Try.underlying23 u8_one d p (N - p) (c - p) n cb A (by rfl) (by rfl) 0 5 N c (u8s xs) (u8s bs) HOWN.out (by rw [HUS.out]; show n = min n (N - p); omega) HSRC.out (by rw [HUS.out]; omega) (one_u8s bs) ?_; intro w9 hO9 hg9)))
    have hE : Laid W w9 g d N c (puts N a bs xs n) := by
      have hg := grown_trans HG3.out hg9
      have hgc : ∀ o, w9.cell? ⟨g, o, none⟩ = W3.cell? ⟨g, o, none⟩ := fun o => World.cell?_of_block (hg9.block g H3.out.gl (fun e => HNE.out.1 (Option.some.inj e)))
      refine ⟨⟨(hgc 0).trans H3.out.c0, (hgc 1).trans H3.out.c1, Nat.lt_of_lt_of_le H3.out.gl hg9.size, ?_, HNE.out.1, HSEG.out, HLEN.out, HOK.out⟩, hg⟩
      rw [HPS.out, u8s_splice]
      exact hO9
    have HE := hide_ hE
    clear hE hO9 hg9
    go_wp2
    refine bodyPost_ret (results_none rfl _ _ _) rfl ?_
    exact ⟨rfl, HE.out⟩
  · have hp' : decide (a % (N : Int) + n ≤ (N : Int)) = false := by simpa using hp
    rw [hp'] at hpl
    clear hb2 hk1 hk2 hm2 h hr hA hok hp hp' hN
    subst hW2
    go_enter Try.func65, Try.ntmps65
    go_wp2_with (first
      | (go_at_call 79; refine hpl.out.mono ?_; rintro e w' ⟨rfl, nq, rfl⟩)
      | (go_at_call 77; refine (HEach.out _).mono ?_; rintro e w4 ⟨rfl, hL, _⟩))
    have HL := hide_ hL
    clear hL
    go_end0
    exact ⟨rfl, HL.out⟩
theorem Write_s (a : Int) (A : Option Addr) (n cb : Nat) (bs : List Int) (h : MemAt W g d N c xs) (h0 : 0 ≤ a) (h1 : a ≤ 4294967295) (hn : n ≤ 4096) (hr : Reads W W.heap.size 1 A n (u8s bs)) (hA : ∀ ad, A = some ad → ad.block ≠ d) (hok : bytesOk bs) :
    Calls Try.prog 57 #[.pointer (some ⟨g, 0, none⟩), .int .u32 a, .slice A n cb] W fun e W' => e = .returned (.int .i64 0) ∧ Laid W W' g d N c (puts N a bs xs n) := by
  have hm := hide_ (made_any g d N c W h.c0 h.seg.pow.bd.1)
  have hw := hide_ (write_s a A n cb bs h h0 h1 hn hr hA hok)
  have d1 : decide ((4096 : Int) < (n : Int)) = false := by simp; omega
  clear h hr hA hok
  go_enter Try.func57, Try.ntmps57
  go_wp2_with (first
    | (go_at_call 59; refine hm.out.mono ?_; rintro e w' ⟨rfl, rfl⟩)
    | (go_at_call 65; refine hw.out.mono ?_; rintro e w4 ⟨rfl, hL⟩))
  have HL := hide_ hL
  clear hL
  go_ret
  exact ⟨rfl, HL.out⟩
end
end Go.Proofs.Ytcfpclhoockcfaa
