/-
  The document's Walk.
-/
import Derived.Test.YtikbegmodacopaaGreatDoorROne
import Derived.Test.YtikbegmodacopaaGreatDoorRDmp
import Derived.Test.YtikbegmodacopaaGreatDoorB27
namespace Go.Proofs.YtikbegmodacopaaGreatDoor
open Go.RowKit Go.PlainAid Go.Shelf Go.BigFrame
set_option linter.unusedSimpArgs false
set_option linter.unusedVariables false
set_option maxRecDepth 100000
def insE (s : StpV) : List Value := [.int .u8 s.op, .int .u32 s.arg]
theorem insE_len : ∀ s : StpV, (insE s).length = 2 := fun _ => rfl
def plcV (l : List StpV) : List Value := l.map fun s => .int .i64 s.at_
theorem intD_info : (Tryz.prog.info? 3).map (fun i => (i.zero, i.size, i.bytes)) = some (some (.int .i64 0), 1, 8) := by kernel_rfl
theorem insD_info : (Tryz.prog.info? 66).map (fun i => (i.zero, i.size, i.bytes)) = some (some (.agg #[.int .u8 0, .int .u32 0]), 2, 8) := by kernel_rfl
/-- what the document's Walk answers -/
def RWalkIs (b : List Int) (w : World) (e : Ending) (w' : World) : Prop :=
  ∃ v1 v2 z1 z2, e = .returned (.tuple #[v1, v2, z1, z2]) ∧ Owns w' w.heap.size [⟨3, 1, v1, (steps b).length, plcV (steps b)⟩, ⟨66, 2, v2, (steps b).length, (steps b).flatMap insE⟩] ∧ Below w.heap.size w w'
set_option maxHeartbeats 4000000 in
theorem rWalk_any (A : Option Addr) (n c : Nat) (b : List Int) (w : World) (hr : Reads w w.heap.size 1 A n (u8s b)) (hb : isBytes b) (hn : n ≤ 65536) :
    Calls Tryz.prog 60 #[.slice A n c] w (RWalkIs b w) := by
  obtain ⟨i0, hi0, hz0, hz1, hz2⟩ := info_parts intD_info
  obtain ⟨i1, hi1, hy0, hy1, hy2⟩ := info_parts insD_info
  have la : b.length = n := by simpa using hr.1
  have HR := hide_ (fun W (hb : Below w.heap.size w W) => (hr.below hb).more hb.size)
  have HL := hide_ la
  have HBY := hide_ hb
  have H0 : Owns w w.heap.size [⟨3, 1, .slice none 0 0, 0, plcV []⟩, ⟨66, 2, .slice none 0 0, 0, ([] : List StpV).flatMap insE⟩] :=
    ⟨fun r hr => by
      rcases List.mem_cons.1 hr with rfl | hr
      · exact World.ownsRow_nil _ _ _ _
      · obtain rfl := List.mem_singleton.1 hr
        exact World.ownsRow_nil _ _ _ _, by
      rw [List.pairwise_cons]
      exact ⟨fun r hr => .inl rfl, List.pairwise_singleton _ _⟩⟩
  clear la hr hb
  go_enter Tryz.func60, Tryz.ntmps60
  go_wp2
  go_loopw [6, 7, 8] (fun v6 v7 s8 wr => ∃ (pre : List StpV) (pos : Nat), s8 = .int .i64 pos ∧ pos ≤ n ∧ pre.length ≤ 16384 ∧ Hid (steps b = pre ++ stepsF b (16384 - pre.length) pos) ∧ Owns wr w.heap.size [⟨3, 1, v6, pre.length, plcV pre⟩, ⟨66, 2, v7, pre.length, pre.flatMap insE⟩] ∧ Below w.heap.size w wr) (fun _ _ s8 _ => n - (intOf s8).toNat)
  case atStart => exact ⟨[], 0, rfl, Nat.zero_le _, Nat.zero_le _, hide_ rfl, H0, Below.refl _ _⟩
  case round =>
    obtain ⟨pre, pos, rfl, hpos, hpl, HS, hO, hb⟩ := hrel
    clear H0
    obtain ⟨A0, c0, hv0, hc0, hc1⟩ := ownsRow_slice (hO.at_ (i := 0) rfl)
    simp only at hv0
    subst hv0
    obtain ⟨A1, c1, hv1, hc2, hc3⟩ := ownsRow_slice (hO.at_ (i := 1) rfl)
    simp only at hv1
    subst hv1
    have HO := hide_ hO
    have HB := hide_ hb
    obtain ⟨L, hL⟩ : ∃ L, L = pre.length := ⟨_, rfl⟩
    have HFIN := hide_ (fun (h : stepsF b (16384 - pre.length) pos = []) (z1 z2 : Value) => show RWalkIs b w (.returned (.tuple #[.slice A0 L c0, .slice A1 L c1, z1, z2])) wr by
      have e : steps b = pre := by rw [HS.out, h, List.append_nil]
      unfold RWalkIs
      rw [e, hL]
      exact ⟨_, _, _, _, rfl, hO, hb⟩)
    rw [← hL] at hpl HS HO HFIN ⊢
    clear hO hb hc0 hc1 hc2 hc3
    by_cases hlt : pos < n
    · by_cases h16 : L = 16384
      · have hfin := HFIN.out (by rw [h16]; rfl)
        have HF := hide_ (hfin (.int .i64 pos) (.int .i64 73))
        clear hfin HFIN hL
        subst h16
        go_wp2
        exact bodyPost_ret (v := .tuple #[.slice A0 16384 c0, .slice A1 16384 c1, .int .i64 pos, .int .i64 73]) (by simp [results, Tryz.results60, go_sem]) rfl HF.out
      · have ON := hide_ (rone_any A n c pos b wr (HR.out wr HB.out) (by omega) HBY.out hlt)
        have hne : ((L : Int) == 16384) = false := by simpa using (by omega : ¬ (L : Int) = 16384)
        have hne2 : (L == 16384) = false := by simpa using h16
        by_cases he : rdE b pos = 0
        · obtain ⟨k', hk'⟩ : ∃ k', 16384 - L = k' + 1 := ⟨16383 - L, by omega⟩
          have HX := hide_ (show steps b = (pre ++ [⟨pos, bA b pos, rdA b pos⟩]) ++ stepsF b (16384 - (L + 1)) (pos + (1 + rdW b pos)) by
            rw [HS.out, hk', stepsF, if_pos ⟨by rw [HL.out]; exact hlt, he⟩, show 16384 - (L + 1) = k' by omega]
            simp)
          have hfit := (rdE_ok he).2.1
          rw [HL.out] at hfit
          unfold rdV rdN at ON
          rw [if_pos he, if_pos he, he] at ON
          have HLL := hide_ (show (pre ++ [(⟨pos, bA b pos, rdA b pos⟩ : StpV)]).length = L + 1 by rw [List.length_append, hL]; rfl)
          have HP := hide_ (show plcV (pre ++ [(⟨pos, bA b pos, rdA b pos⟩ : StpV)]) = plcV pre ++ [.int .i64 pos] by simp [plcV])
          have HI := hide_ (show (pre ++ [(⟨pos, bA b pos, rdA b pos⟩ : StpV)]).flatMap insE = pre.flatMap insE ++ [.int .u8 (bA b pos), .int .u32 (rdA b pos)] by simp [insE])
          obtain ⟨o, ho⟩ : ∃ o, o = bA b pos := ⟨_, rfl⟩
          obtain ⟨g, hg⟩ : ∃ g, g = rdA b pos := ⟨_, rfl⟩
          obtain ⟨wd, hwd⟩ : ∃ g, g = rdW b pos := ⟨_, rfl⟩
          rw [← ho, ← hg] at ON HX HLL HP HI
          rw [← hwd] at ON HX hfit
          have s1 : IntKind.i64.wrap ((pos : Int) + (1 + (wd : Int))) = ((pos + (1 + wd) : Nat) : Int) := by rw [show (pos : Int) + (1 + (wd : Int)) = ((pos + (1 + wd) : Nat) : Int) by push_cast; rfl]; exact IntWalk.i64_in _ (by omega)
          clear ho hg hwd hk' he HS HFIN hL
          go_wp2_with fail
          refine ON.out.mono ?_
          rintro e w2 ⟨rfl, hb2⟩
          have HB2 := hide_ (HB.out.trans (hb2.mono HB.out.size))
          have HO2 := hide_ ((HO.out.below hb2).box 66 #[.int .u8 o, .int .u32 g] HB2.out.size (by simp [maxLen]))
          have HB3 := hide_ (HB2.out.alloc HB2.out.size (.cells #[.int .u8 o, .int .u32 g] 66))
          obtain ⟨w3, hw3⟩ : ∃ W, W = w2.alloc (.cells #[.int .u8 o, .int .u32 g] 66) := ⟨_, rfl⟩
          rw [← hw3] at HO2 HB3
          clear hb2 ON HO HB
          go_upto_region 10 with (fail)
          rw [← hw3]
          clear hw3
          go_wp2_with (at_builtin; go_must (refine wpList_append_owns _ rfl (.tmp 35) (.tmp 37) 107 rfl w.heap.size _ 0 3 1 (.slice A0 L c0) L (plcV pre) rfl (HO2.out.alloc _) (by have := HB3.out.size; simp; omega) i0 _ 8 Tryz.underlying107 hi0 hz0 hz1 hz2 rfl (by omega) rfl _ _ 1 1 [.int .i64 pos] rfl (reads_new w3 3 1 1 [.int .i64 pos] rfl) (by simp [Value.oneCell']) (by simp only [maxLen]; omega) (by omega) ?_))
          intro v4 w4 hO4 hb4 hsz4
          have HB4 := hide_ ((HB3.out.alloc HB3.out.size _).trans hb4)
          have hK := own_blk (hO4.at_ (i := 2) rfl)
          have d0 := hK.cell 0
          have d1 := hK.cell 1
          have HO4 := hide_ hO4
          obtain ⟨A4, c4, hv4, _, _⟩ := ownsRow_slice (hO4.at_ (i := 0) rfl)
          simp only at hv4
          subst hv4
          clear hO4 hb4 hsz4 hK HO2
          go_wp2_with (at_builtin; go_must (refine wpList_append_owns _ rfl (.tmp 39) (.tmp 41) 22 rfl w.heap.size _ 1 66 2 (.slice A1 L c1) L (pre.flatMap insE) rfl (HO4.out.alloc _) (by have := HB4.out.size; simp; omega) i1 _ 8 Tryz.underlying22 hi1 hy0 hy1 hy2 rfl (by omega) rfl _ _ 1 1 [.int .u8 o, .int .u32 g] rfl (reads_new w4 66 2 1 [.int .u8 o, .int .u32 g] rfl) (by simp [Value.oneCell']) (by simp only [maxLen]; omega) (by omega) ?_))
          intro v5 w5 hO5 hb5 hsz5
          have HB5 := hide_ ((HB4.out.alloc HB4.out.size _).trans hb5)
          have HO5 := hide_ (hO5.sub (qs := [⟨3, 1, .slice A4 (L + 1) c4, L + 1, plcV pre ++ [.int .i64 pos]⟩, ⟨66, 2, v5, L + 1, pre.flatMap insE ++ [.int .u8 o, .int .u32 g]⟩]) (by simp))
          clear hO5 hb5 hsz5 d0 d1 HO4
          go_wp2
          go_roundw
          case rel => exact ⟨_, pos + (1 + wd), by first | rw [s1] | go_num, by omega, by rw [HLL.out]; omega, by rw [HLL.out]; exact HX, by rw [HLL.out, HP.out, HI.out]; exact HO5.out, HB5.out⟩
          case measure => simp [intOf]; omega
        · have hfin := HFIN.out (stepsF_no _ he)
          unfold rdV rdN at ON
          rw [if_neg he, if_neg he] at ON
          obtain ⟨E, hE⟩ : ∃ E, E = rdE b pos := ⟨_, rfl⟩
          rw [← hE] at he ON
          have HF := hide_ (fun W (hb : Below wr.heap.size wr W) => show RWalkIs b w (.returned (.tuple #[.slice A0 L c0, .slice A1 L c1, .int .i64 pos, .int .i64 E])) W from by
            obtain ⟨v1, v2, z1, z2, e1, e2, e3⟩ := hfin (.int .i64 pos) (.int .i64 E)
            exact ⟨v1, v2, z1, z2, e1, e2.below hb, e3.trans (hb.mono e3.size)⟩)
          have hne3 : (E != 0) = true := by simpa using he
          unfold zI at ON
          clear hfin HFIN hL hE he HS
          go_wp2_with fail
          refine ON.out.mono ?_
          rintro e w2 ⟨rfl, hb2⟩
          have HFF := hide_ (HF.out (w2.alloc (.cells #[.int .u8 0, .int .u32 0] 66)) (hb2.alloc hb2.size _))
          clear hb2 ON HF
          go_wp2
          exact bodyPost_ret (v := .tuple #[.slice A0 L c0, .slice A1 L c1, .int .i64 pos, .int .i64 E]) (by simp [results, Tryz.results60, go_sem]) rfl HFF.out
    · have HF := hide_ (HFIN.out (stepsF_ge _ (by rw [HL.out]; omega)) (.int .i64 0) (.int .i64 0))
      clear HFIN hL
      go_wp2
      exact bodyPost_ret (v := .tuple #[.slice A0 L c0, .slice A1 L c1, .int .i64 0, .int .i64 0]) (by simp [results, Tryz.results60, go_sem]) rfl HF.out
end Go.Proofs.YtikbegmodacopaaGreatDoor
