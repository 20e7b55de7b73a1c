/-
  The walk of playpenlaw09.apartTouches, other rows beside the lists.
-/
import Derived.Test.YtgppbdcnpailaaaApartTP
namespace Go.Proofs.Ytgppbdcnpailaaa
open Go.RowKit Go.PlainAid Go.BigFrame
set_option linter.unusedVariables false
set_option linter.unusedSimpArgs false

theorem intOf_int (k : IntKind) (x : Int) : intOf (.int k x) = x := rfl
theorem meas_lt {a j : Nat} {u v : Value} (hu : intOf u = (j : Int) + 1) (hv : intOf v = (j : Int)) (h : j < a) : a - (intOf u).toNat < a - (intOf v).toNat := by
  rw [hu, hv]
  omega
set_option maxRecDepth 100000 in
set_option maxHeartbeats 1000000 in
theorem ApartT_any (AL : Option Addr) (K cL B : Nat) (As : Nat → Option Addr) (cs ns : Nat → Nat) (fs : Nat → List (Int × Bool)) (ex0 : List Ro) (w : World) (hO : Owns w B (rowsF K (rowT As cs ns fs) ++ lsT AL K cL As ns :: ex0)) (hlen : ∀ j, j < K → (fs j).length = ns j) (hB : B ≤ w.heap.size)
    (hn : ∀ j, j < K → ns j ≤ 65536) (hK : K ≤ 4398046511104) :
    Calls Try.prog 89 #[.slice AL K cL] w fun e w' => e = .returned (.bool true) ∧ Owns w' B ex0 ∧ Below B w w' := by
  obtain ⟨i0, hi0, hz0, hz1, hz2⟩ := info_parts touch_info
  obtain ⟨i1, hi1, hy0, hy1, hy2⟩ := info_parts infoT
  have HLEN := hide_ hlen
  have HN := hide_ hn
  clear hlen hn
  go_enter Try.func89, Try.ntmps89
  go_wp2
  go_loopw [3] (fun i wr => ∃ k : Nat, k ≤ K ∧ i = .int .i64 k ∧ Owns wr B (rowsF K (rowT As cs ns (markT ns fs k)) ++ lsT AL K cL As ns :: ex0) ∧ Below B w wr) (fun i _ => K - (intOf i).toNat)
  case atStart =>
    refine ⟨0, Nat.zero_le _, rfl, ?_, Below.refl _ _⟩
    have : markT ns fs 0 = fs := by funext j; simp [markT]
    rw [this]
    exact hO
  case round =>
    obtain ⟨k, hk, rfl, hOk, hb⟩ := hrel
    by_cases hlt : k < K
    · obtain ⟨G, rfl⟩ := lsT_some hOk (show 0 < K by omega)
      have hnk := HN.out k hlt
      obtain ⟨n, hnn⟩ : ∃ n, n = ns k := ⟨_, rfl⟩
      rw [← hnn] at hnk
      obtain ⟨A0, hA0⟩ : ∃ A0, A0 = As k := ⟨_, rfl⟩
      have HNN := hide_ hnn
      have HA0 := hide_ hA0
      have hls : ∀ (W : World) (f : Nat → List (Int × Bool)), Owns W B (rowsF K (rowT As cs ns f) ++ lsT (some ⟨G, 0, none⟩) K cL As ns :: ex0) → W.cell? ⟨G, k, none⟩ = some (.slice A0 n n) := fun W f h => by
        have := h.cell (i := K + 0) (rowsF_ex (rowT As cs ns f) (lsT (some ⟨G, 0, none⟩) K cL As ns) ex0 0) (j := k) (u := .slice (As k) (ns k) (ns k)) (by simp [hlt])
        rw [this, hA0, hnn]
      have HLS := hide_ hls
      have hcl := hls wr _ hOk
      clear hls hO hnn hA0
      go_wp2
      go_loopw [4] (fun i wr => ∃ j : Nat, j ≤ n ∧ i = .int .i64 j ∧ Owns wr B (rowsF K (rowT As cs ns (updT (markT ns fs k) k (mkL k j ++ (fs k).drop j))) ++ lsT (some ⟨G, 0, none⟩) K cL As ns :: ex0) ∧ Below B w wr) (fun i _ => n - (intOf i).toNat)
      case atStart =>
        refine ⟨0, Nat.zero_le _, rfl, ?_, hb⟩
        have e1 : mkL k 0 ++ (fs k).drop 0 = markT ns fs k k := by simp [mkL, markT]
        rw [e1, updT_self]
        exact hOk
      case round =>
        obtain ⟨j, hj, rfl, hOj, hbj⟩ := hrel
        have hcj := HLS.out wr _ hOj
        by_cases hlt2 : j < n
        · have hrow := hOj.at_ (rowT_get (f := markT ns fs k) (ex := lsT (some ⟨G, 0, none⟩) K cL As ns :: ex0) hlt (mkL k j ++ (fs k).drop j))
          obtain ⟨g, c1, hv2⟩ := ownsRow_some hrow (show 0 < ns k by rw [← HNN.out]; omega)
          have hv3 : As k = some ⟨g, 0, none⟩ := by injection hv2
          obtain rfl : A0 = some ⟨g, 0, none⟩ := by rw [HA0.out, hv3]
          obtain ⟨X, hX⟩ : ∃ X, X = mkL k j ++ (fs k).drop j := ⟨_, rfl⟩
          have hjf : j < (fs k).length := by rw [HLEN.out k hlt, ← HNN.out]; exact hlt2
          have hXl : j < X.length := by rw [hX, List.length_append, mkL_len, List.length_drop]; omega
          rw [← hX] at hOj
          have hrk : (rowsF K (rowT As cs ns (updT (markT ns fs k) k X)) ++ lsT (some ⟨G, 0, none⟩) K cL As ns :: ex0)[k]? = some ⟨73, 2, .slice (some ⟨g, 0, none⟩) (ns k) (cs k), ns k, touchCells X⟩ := by rw [rowT_get hlt, hv3]
          obtain ⟨t1, t2⟩ := touch_get X (List.getElem?_eq_getElem hXl)
          have hc0 : wr.cell? ⟨g, j * 2, none⟩ = some (.int .u32 X[j].1) := hOj.cell hrk t1
          have hc1 : wr.cell? ⟨g, j * 2 + 1, none⟩ = some (.bool X[j].2) := hOj.cell hrk t2
          have hf0 := hOj.frozen hrk (j * 2)
          have hf1 := hOj.frozen hrk (j * 2 + 1)
          have hst := rowT_store hlt X hv3 hOj hXl ((1000003 * ((k : Int) + 1) + (j : Int)) % 4294967296) false
          rw [hX, show ((1000003 * ((k : Int) + 1) + (j : Int)) % 4294967296, false) = mkT k j from rfl, over_setT _ _ _ hjf] at hst
          have hgb := hOj.base hrk
          have HST := hide_ hst
          have HBJ := hide_ hbj
          have hw1 : IntKind.i64.wrap ((k : Int) + 1) = (k : Int) + 1 := by rw [IntKind.wrap_i64]; omega
          have hw2 : IntKind.i64.wrap (1000003 * ((k : Int) + 1)) = 1000003 * ((k : Int) + 1) := by rw [IntKind.wrap_i64]; omega
          have hw3 : IntKind.i64.wrap (1000003 * ((k : Int) + 1) + (j : Int)) = 1000003 * ((k : Int) + 1) + (j : Int) := by rw [IntKind.wrap_i64]; omega
          clear hst hX hrow hv2 hOk hOj hcl t1 t2 hv3 hrk hbj hb
          go_wp2
          go_roundw
          case rel => exact ⟨j + 1, by omega, by go_num, HST.out, (HBJ.out.setCell (p := ⟨g, j * 2, none⟩) hgb.1 _).setCell (p := ⟨g, j * 2 + 1, none⟩) hgb.1 _⟩
          case measure => simp [intOf]; omega
        · obtain rfl : j = n := by omega
          have hfl : (fs k).drop j = [] := List.drop_eq_nil_of_le (by rw [HLEN.out k hlt, ← HNN.out]; omega)
          rw [hfl, List.append_nil] at hOj
          have hms := markT_step ns fs k
          rw [← HNN.out] at hms
          have HMS := hide_ hms
          clear hfl hms hcl hOk
          go_wp2
          go_roundw
          case rel =>
            refine ⟨k + 1, by omega, by go_num, ?_, hbj⟩
            rw [HMS.out]
            exact hOj
          case measure => simp [intOf]; omega
    · obtain rfl : k = K := by omega
      have hfx : markT ns fs k = fun j => if j < k then mkL j (ns j) else fs j := rfl
      have hO2 : Owns wr B (gsT (.slice none 0 0) 0 (fun _ => ⟨0, 0, .slice none 0 0, 0, []⟩) :: (rowsF 0 (fun _ => ⟨0, 0, .slice none 0 0, 0, []⟩) ++ (rowsF k (rowT As cs ns fun j => mkL j (ns j)) ++ lsT AL k cL As ns :: ex0))) := by
        have h1 := hOk.nilrow 70 1
        have e1 : rowsF k (rowT As cs ns (markT ns fs k)) = rowsF k (rowT As cs ns fun j => mkL j (ns j)) := rowsF_congr fun j hj => by unfold rowT markT; rw [if_pos hj]
        rw [e1] at h1
        exact h1.swap (List.perm_append_singleton _ _)
      have HO2 := hide_ hO2
      have HBS := hide_ hB
      have HB2 := hide_ hb
      clear hO2 hfx hOk hO hb
      go_wp2
      go_loopw [5, 6] (fun gv i wr => ∃ (m : Nat) (r : Nat → Ro), m ≤ k ∧ i = .int .i64 m ∧ Hid (NewOk ns m r) ∧ Hid (Owns wr B (gsT gv m r :: (rowsF m r ++ (rowsF k (rowT As cs ns fun j => mkL j (ns j)) ++ lsT AL k cL As ns :: ex0)))) ∧ Below B w wr) (fun _ i _ => k - (intOf i).toNat)
      case atStart => exact ⟨0, _, Nat.zero_le _, rfl, hide_ (fun j hj => absurd hj (by omega)), HO2, HB2.out⟩
      case round =>
        clear HO2 HB2
        obtain ⟨m, r, hm, rfl, HP, HO, hb2⟩ := hrel
        by_cases hlt : m < k
        · obtain ⟨G, rfl⟩ := lsT_some (HO.out.sub ((List.sublist_append_right (rowsF m r) _).trans (List.sublist_cons_self _ _))) (show 0 < k by omega)
          have hnm := HN.out m hlt
          obtain ⟨n, hnn⟩ : ∃ n, n = ns m := ⟨_, rfl⟩
          rw [← hnn] at hnm
          obtain ⟨A0, hA0⟩ : ∃ A0, A0 = As m := ⟨_, rfl⟩
          have HNN := hide_ hnn
          have HA0 := hide_ hA0
          have hcl : ∀ (W : World) (l : List Ro), Owns W B (l ++ (rowsF k (rowT As cs ns fun j => mkL j (ns j)) ++ lsT (some ⟨G, 0, none⟩) k cL As ns :: ex0)) → W.cell? ⟨G, m, none⟩ = some (.slice A0 n n) := fun W l h => by
            rw [fx_cell h hlt, hA0, hnn]
          have HCL := hide_ hcl
          have hcl0 := hcl wr (_ :: rowsF m r) HO.out
          obtain ⟨Ag, cg, hgv, _, _⟩ := ownsRow_slice (HO.out.at_ (i := 0) rfl)
          simp only [gsT] at hgv
          subst hgv
          have HB2 := hide_ hb2
          clear hcl hnn hA0 hb2
          obtain ⟨mi, hmi⟩ : ∃ mi : Int, mi = (m : Int) := ⟨_, rfl⟩
          have mi0 : mi.toNat = m := by omega
          have mi1 : 0 ≤ mi := by omega
          have mi2 : mi < (k : Int) := by omega
          have mi3 : mi ≤ 4398046511104 := by omega
          have HMI := hide_ hmi
          rw [← hmi]
          clear hmi
          go_wp2
          go_loopw [7, 8] (fun g i wr => ∃ (i' : Nat), i' ≤ 64 ∧ i = .int .i64 i' ∧ (∃ A1 c1, g = .slice A1 (n + i') c1) ∧ Hid ((i' = 0 ∧ g = .slice A0 n n ∧ Owns wr B (gsT (.slice Ag m cg) m r :: (rowsF m r ++ (rowsF k (rowT As cs ns fun j => mkL j (ns j)) ++ lsT (some ⟨G, 0, none⟩) k cL As ns :: ex0)))) ∨
              (0 < i' ∧ Owns wr B (⟨73, 2, g, n + i', touchCells (mkL m (n + i'))⟩ :: gsT (.slice Ag m cg) m r :: (rowsF m r ++ (rowsF k (rowT As cs ns fun j => mkL j (ns j)) ++ lsT (some ⟨G, 0, none⟩) k cL As ns :: ex0))))) ∧ Below B w wr) (fun _ i _ => 64 - (intOf i).toNat)
          case atStart => exact ⟨0, Nat.zero_le _, rfl, ⟨_, _, rfl⟩, hide_ (.inl ⟨rfl, rfl, HO.out⟩), HB2.out⟩
          case round =>
            clear hcl0 HB2 HO
            obtain ⟨i, hi, rfl, ⟨A1, c1, rfl⟩, HR, hb3⟩ := hrel
            have hsz := hb3.size
            have HB3 := hide_ hb3
            by_cases hlt3 : i < 64
            · have hw1 : IntKind.i64.wrap (mi + 1) = mi + 1 := by rw [IntKind.wrap_i64]; omega
              have hw2 : IntKind.i64.wrap (1000003 * (mi + 1)) = 1000003 * (mi + 1) := by rw [IntKind.wrap_i64]; omega
              have hw3 : IntKind.i64.wrap (1000003 * (mi + 1) + (n : Int)) = 1000003 * (mi + 1) + (n : Int) := by rw [IntKind.wrap_i64]; omega
              have hw4 : IntKind.i64.wrap (1000003 * (mi + 1) + (n : Int) + (i : Int)) = 1000003 * (mi + 1) + (n : Int) + (i : Int) := by rw [IntKind.wrap_i64]; omega
              have hw5 : IntKind.u32.wrap (1000003 * (mi + 1) + (n : Int) + (i : Int)) = (1000003 * (mi + 1) + (n : Int) + (i : Int)) % 4294967296 := by rw [IntKind.wrap_u32]
              have HMS := hide_ (show touchCells (mkL m (n + i + 1)) = touchCells (mkL m (n + i)) ++ [.int .u32 ((1000003 * (mi + 1) + (n : Int) + (i : Int)) % 4294967296), .bool false] by
                rw [mkL_succ, touchCells_app]
                unfold mkT
                rw [← HMI.out]
                rw [show (1000003 * (mi + 1) + ((n + i : Nat) : Int)) = 1000003 * (mi + 1) + (n : Int) + (i : Int) by omega]
                rfl)
              have HRN : Hid (Reads (wr.alloc (.cells [Value.int .u32 ((1000003 * (mi + 1) + (n : Int) + (i : Int)) % 4294967296), .bool false].toArray 73)) (wr.heap.size + 1) 2 (some ⟨wr.heap.size, 0, none⟩) 1 [.int .u32 ((1000003 * (mi + 1) + (n : Int) + (i : Int)) % 4294967296), .bool false]) := hide_ (reads_new wr 73 2 1 _ rfl)
              rcases HR.out with ⟨h0, hg0, hO⟩ | ⟨h0, hO⟩
              · injection hg0 with e1 e2 e3
                have e1' := e1.symm
                have e3' := e3.symm
                subst e1' e3'
                have hcl0 := HCL.out wr (_ :: rowsF m r) hO
                have hown := fx_row (l := gsT (.slice Ag m cg) m r :: rowsF m r) hO hlt
                have HOW := hide_ (show wr.ownsRow B 73 2 (.slice A0 (n + i) (cs m)) (n + i) (touchCells (mkL m (n + i))) by rw [HA0.out, h0, Nat.add_zero, HNN.out]; exact hown)
                have HNO := hide_ (show A0 = none → n + i = 0 ∧ n = 0 from fun hx => by have := own_none HOW.out hx; omega)
                have HOX := hide_ hO
                have HFULL := hide_ (show n < n + i + 1 by omega)
                have HNM := hide_ (And.intro hnm hK)
                have HL3 := hide_ hlt3
                have HSZ := hide_ hsz
                have hl3 : (i : Int) < 64 := by omega
                clear hO hown HR hb3 e1 e2 e3 h0 hnm hK hlt3 hi hm hlt hsz hB
                go_wp2_with (at_builtin; refine wpList_append_grows _ rfl (.tmp 54) (.tmp 68) 70 rfl 73 i0 _ 2 8 Try.underlying70 hi0 hz0 hz1 hz2 rfl (by omega) A0 (n + i) n (touchCells (mkL m (n + i))) rfl HNO.out (by rw [touchCells_len, mkL_len]) (((Reads.of_own HOW.out).alloc (Nat.le_refl _) _).all_) ⟨wr.heap.size, 0, none⟩ 1 1 [Value.int .u32 ((1000003 * (mi + 1) + (n : Int) + (i : Int)) % 4294967296), .bool false] rfl rfl (HRN.out.all_ _ rfl) (by simp [Value.oneCell']) HFULL.out (by have := HNM.out; have := HL3.out; simp only [maxLen]; omega) (by have := HNM.out; have := HL3.out; omega) ?_)
                intro v7 w7 hown7 hgr7
                obtain ⟨A7, c7, rfl, _, _⟩ := ownsRow_slice hown7
                have hB1 : B ≤ (wr.alloc (.cells #[Value.int .u32 ((1000003 * (mi + 1) + (n : Int) + (i : Int)) % 4294967296), .bool false] 73)).heap.size := by have := HSZ.out; have := HBS.out; rw [World.size_alloc]; omega
                have hbl := (Below.refl (wr.alloc (.cells #[Value.int .u32 ((1000003 * (mi + 1) + (n : Int) + (i : Int)) % 4294967296), .bool false] 73)).heap.size _).grown hgr7 (Nat.le_refl _) (fun k e => by cases e)
                have hO7 := ((HOX.out.alloc (.cells #[Value.int .u32 ((1000003 * (mi + 1) + (n : Int) + (i : Int)) % 4294967296), .bool false] 73)).push hbl (r := ⟨73, 2, .slice A7 (n + i + 1) c7, n + i + 1, touchCells (mkL m (n + i)) ++ [.int .u32 ((1000003 * (mi + 1) + (n : Int) + (i : Int)) % 4294967296), .bool false]⟩) (by rw [World.size_alloc]; exact hown7) hB1).swap (List.perm_append_singleton _ _)
                rw [← HMS.out] at hO7
                have HO7 := hide_ hO7
                have HB7 := hide_ ((HB3.out.alloc (Nat.le_trans HBS.out HSZ.out) _).trans (hbl.mono hB1))
                clear hO7 hbl hown7 hgr7
                go_wp2
                have hlt3 := HL3.out
                go_roundw
                case rel => exact ⟨i + 1, by have := HL3.out; omega, by have := HL3.out; go_num, ⟨A7, c7, rfl⟩, hide_ (.inr ⟨by omega, HO7.out⟩), HB7.out⟩
                case measure => have := HL3.out; simp [intOf]; omega
              · have hcl0 := HCL.out wr (_ :: _ :: rowsF m r) hO
                have HOX := hide_ hO
                have HH0 := hide_ h0
                have HNM := hide_ (And.intro hnm hK)
                have HL3 := hide_ hlt3
                have HSZ := hide_ hsz
                have hl3 : (i : Int) < 64 := by omega
                clear hO HR hb3 h0 hnm hK hlt3 hi hm hlt hsz hB
                go_wp2_with (at_builtin; refine wpList_append_owns _ rfl (.tmp 54) (.tmp 68) 70 rfl B _ 0 73 2 (.slice A1 (n + i) c1) (n + i) (touchCells (mkL m (n + i))) rfl (HOX.out.alloc _) (by have := HSZ.out; have := HBS.out; rw [World.size_alloc]; omega) i0 _ 8 Try.underlying70 hi0 hz0 hz1 hz2 rfl (by omega) rfl _ _ 1 1 [Value.int .u32 ((1000003 * (mi + 1) + (n : Int) + (i : Int)) % 4294967296), .bool false] rfl HRN.out (by simp [Value.oneCell']) (by have := HNM.out; have := HL3.out; simp only [maxLen]; omega) (by have := HNM.out; have := HL3.out; omega) ?_)
                intro v7 w7 hO7 hb7 hsz7
                obtain ⟨A7, c7, hv7, _, _⟩ := ownsRow_slice (hO7.at_ (i := 0) rfl)
                simp only at hv7
                subst hv7
                rw [← HMS.out] at hO7
                have HO7 := hide_ hO7
                have HB7 := hide_ ((HB3.out.alloc (Nat.le_trans HBS.out HSZ.out) _).trans hb7)
                clear hO7 hb7
                go_wp2
                have hlt3 := HL3.out
                go_roundw
                case rel => exact ⟨i + 1, by have := HL3.out; omega, by have := HL3.out; go_num, ⟨A7, c7, rfl⟩, hide_ (.inr ⟨by omega, HO7.out⟩), HB7.out⟩
                case measure => have := HL3.out; simp [intOf]; omega
            · obtain rfl : i = 64 := by omega
              rcases HR.out with ⟨h0, _, _⟩ | ⟨h0, hO⟩
              · omega
              · have HOX := hide_ hO
                clear hO HR hb3 h0
                go_wp2_with (at_builtin; refine wpList_append_owns _ rfl (.tmp 70) (.tmp 72) 87 rfl B _ 1 70 1 (.slice Ag m cg) m ((List.range m).map fun j => (r j).v) rfl (HOX.out.alloc _) (by rw [World.size_alloc]; omega) i1 _ 24 Try.underlying87 hi1 hy0 hy1 hy2 rfl (by omega) rfl _ _ 1 1 [.slice A1 (n + 64) c1] rfl (reads_new wr 70 1 1 [.slice A1 (n + 64) c1] rfl) (by simp [Value.oneCell']) (by simp only [maxLen]; omega) (by omega) ?_)
                intro v7 w7 hO7 hb7 hsz7
                have hO8 : Owns w7 B (gsT v7 (m + 1) (updR r m ⟨73, 2, .slice A1 (n + 64) c1, n + 64, touchCells (mkL m (n + 64))⟩) :: (rowsF (m + 1) (updR r m ⟨73, 2, .slice A1 (n + 64) c1, n + 64, touchCells (mkL m (n + 64))⟩) ++ (rowsF k (rowT As cs ns fun j => mkL j (ns j)) ++ lsT (some ⟨G, 0, none⟩) k cL As ns :: ex0))) := by
                  rw [← gsT_next (.slice Ag m cg) v7, rowsF_next]
                  exact Owns.perm (show Owns w7 B (⟨73, 2, .slice A1 (n + 64) c1, n + 64, touchCells (mkL m (n + 64))⟩ :: ⟨70, 1, v7, m + 1, ((List.range m).map fun j => (r j).v) ++ [.slice A1 (n + 64) c1]⟩ :: (rowsF m r ++ (rowsF k (rowT As cs ns fun j => mkL j (ns j)) ++ lsT (some ⟨G, 0, none⟩) k cL As ns :: ex0))) from hO7) fun cnt one e1 e2 e3 => by simp only [e1, e2, e3]; omega
                  
                have HO8 := hide_ hO8
                have HB8 := hide_ ((HB3.out.alloc (by omega) _).trans hb7)
                have HP8 := hide_ (HP.out.next (.slice A1 (n + 64) c1))
                clear hO7 hO8 hb7
                go_wp2
                have hmi := HMI.out
                clear HMI
                subst hmi
                go_roundw
                case rel => exact ⟨m + 1, _, by omega, by go_num, HP8, by rw [← HNN.out]; exact HO8, HB8.out⟩
                case measure => simp [intOf]; omega
        · obtain rfl : m = k := by omega
          have HB2 := hide_ hb2
          clear hb2 hB
          obtain ⟨W0, hW0⟩ : ∃ W0, W0 = wr := ⟨_, rfl⟩
          rw [← hW0]
          rw [← hW0] at HO HB2
          clear hW0
          go_wp2
          go_loopw [9] (fun i W => ∃ q : Nat, q ≤ m ∧ i = .int .i64 q ∧ Below W0.heap.size W0 W) (fun i _ => m - (intOf i).toNat)
          case atStart => exact ⟨0, Nat.zero_le _, rfl, Below.refl _ _⟩
          case round =>
            obtain ⟨q, hq, rfl, hbq⟩ := hrel
            have HOQ := hide_ (HO.out.below hbq)
            have HBQ := hide_ hbq
            clear hbq
            by_cases hq2 : q < m
            · obtain ⟨G, rfl⟩ := lsT_some (HO.out.sub ((List.sublist_append_right (rowsF m r) _).trans (List.sublist_cons_self _ _))) (show 0 < m by omega)
              have hnq := HN.out q hq2
              obtain ⟨g', cg, g5, c5, rfl, hc1, hc2, s1, s2, s3, _, _⟩ := last_T HOQ.out HP.out hq2
              obtain ⟨n, hnn⟩ : ∃ n, n = ns q := ⟨_, rfl⟩
              obtain ⟨A0, hA0⟩ : ∃ A0, A0 = As q := ⟨_, rfl⟩
              rw [← hnn] at hnq hc1 hc2
              rw [← hA0] at hc2
              have HNN := hide_ hnn
              have HA0 := hide_ hA0
              clear hnn hA0
              obtain ⟨qi, hqi⟩ : ∃ qi : Int, qi = (q : Int) := ⟨_, rfl⟩
              have qi0 : qi.toNat = q := by omega
              have qi1 : 0 ≤ qi := by omega
              have qi2 : qi < (m : Int) := by omega
              have qi3 : qi ≤ 4398046511104 := by omega
              have HQI := hide_ hqi
              rw [← hqi]
              clear hqi
              go_wp2
              go_loopw [10] (fun i W => ∃ j : Nat, j ≤ n + 64 ∧ i = .int .i64 j ∧ Below W0.heap.size W0 W) (fun i _ => n + 64 - (intOf i).toNat)
              case atStart => exact ⟨0, Nat.zero_le _, rfl, HBQ.out⟩
              case round =>
                clear hc1 hc2 s1 s2 s3
                obtain ⟨j, hj, rfl, hbj⟩ := hrel
                obtain ⟨g9, cg9, g5', c5', e9, hc1, hc2, s1, s2, s3, hc3, hc4⟩ := last_T (HO.out.below hbj) HP.out hq2
                injection e9 with e9a _ e9b
                injection e9a with e9a
                injection e9a with e9a
                subst e9a e9b
                rw [← HNN.out] at hc1 hc2 hc3 hc4
                rw [← HA0.out] at hc2 hc4
                have hw1 : IntKind.i64.wrap (qi + 1) = qi + 1 := by rw [IntKind.wrap_i64]; omega
                have hw2 : IntKind.i64.wrap (1000003 * (qi + 1)) = 1000003 * (qi + 1) := by rw [IntKind.wrap_i64]; omega
                have hw3 : IntKind.i64.wrap (1000003 * (qi + 1) + (j : Int)) = 1000003 * (qi + 1) + (j : Int) := by rw [IntKind.wrap_i64]; omega
                have hw5 : IntKind.u32.wrap (1000003 * (qi + 1) + (j : Int)) = (1000003 * (qi + 1) + (j : Int)) % 4294967296 := by rw [IntKind.wrap_u32]
                have HBJ := hide_ hbj
                obtain ⟨X, hX⟩ : ∃ X : Int, X = (1000003 * (qi + 1) + (j : Int)) % 4294967296 := ⟨_, rfl⟩
                rw [← hX] at hw5
                have hcmp := fun w => touch_eq w X false
                have hjs := hbj.size
                by_cases hj2 : j < n + 64
                · obtain ⟨hx0, hx1⟩ := hc3 j hj2
                  simp only [mkT, ← HQI.out, ← hX] at hx0
                  by_cases hj3 : j < n
                  · obtain ⟨g, e8, hgl, hy0, hy1⟩ := hc4 j hj3
                    simp only [mkT, ← HQI.out, ← hX] at hy0
                    subst e8
                    have HX := hide_ (And.intro hx0 hx1)
                    have HY := hide_ (And.intro hy0 hy1)
                    have HCMP := hide_ hcmp
                    have HNQ := hide_ (And.intro hnq hK)
                    have HJ2 := hide_ hj2
                    have hl4 : (j : Int) < (n : Int) + 64 := by omega
                    clear hc3 hc4 hx0 hx1 hy0 hy1 hcmp hnq hK hj2 hX hm qi3 hi0 hz0 hz1 hz2 hi1
                    go_wp2
                    obtain ⟨hx0, hx1⟩ := HX.out
                    obtain ⟨hy0, hy1⟩ := HY.out
                    have hcmp := HCMP.out
                    go_big_quiet (fail)
                    clear hx0 hx1 hy0 hy1 hcmp
                    go_wp2
                    have hnq := HNQ.out.1
                    have hj2 := HJ2.out
                    have hw9 : wrap64 ((j : Int) + 1) = (j : Int) + 1 := by unfold wrap64; omega
                    clear hw1 hw2 hw3 hw5
                    go_roundw
                    case rel => exact ⟨j + 1, hj2, congrArg (Value.int .i64) (by rw [hw9]; exact (Int.natCast_add j 1).symm), below_draws2 (hbj.alloc hjs _) _⟩
                    case measure => exact meas_lt ((intOf_int _ _).trans hw9) (intOf_int _ _) hj2
                  · have HX := hide_ (And.intro hx0 hx1)
                    have HCMP := hide_ hcmp
                    have HNQ := hide_ (And.intro hnq hK)
                    have HJ2 := hide_ hj2
                    have hl4 : (j : Int) < (n : Int) + 64 := by omega
                    clear hc3 hc4 hx0 hx1 hcmp hnq hK hj2 hX hm qi3 hi0 hz0 hz1 hz2 hi1
                    go_wp2
                    obtain ⟨hx0, hx1⟩ := HX.out
                    have hcmp := HCMP.out
                    go_big_quiet (fail)
                    clear hx0 hx1 hcmp
                    go_wp2
                    have hnq := HNQ.out.1
                    have hj2 := HJ2.out
                    have hw9 : wrap64 ((j : Int) + 1) = (j : Int) + 1 := by unfold wrap64; omega
                    clear hw1 hw2 hw3 hw5
                    go_roundw
                    case rel => exact ⟨j + 1, hj2, congrArg (Value.int .i64) (by rw [hw9]; exact (Int.natCast_add j 1).symm), below_draws2 (hbj.alloc hjs _) _⟩
                    case measure => exact meas_lt ((intOf_int _ _).trans hw9) (intOf_int _ _) hj2
                · obtain rfl : j = n + 64 := by omega
                  clear hc3 hc4 hw1 hw2 hw3 hw5 hcmp
                  go_wp2
                  have hqi := HQI.out
                  clear HQI
                  subst hqi
                  go_roundw
                  case rel => exact ⟨q + 1, by omega, by go_num, HBJ.out⟩
                  case measure => simp [intOf]; omega
            · obtain rfl : q = m := by omega
              have HFIN := hide_ (HOQ.out.sub ((List.sublist_cons_self _ _).trans ((List.sublist_append_right _ _).trans ((List.sublist_append_right _ _).trans (List.sublist_cons_self _ _)))))
              have HBF := hide_ (HB2.out.trans (HBQ.out.mono (Nat.le_trans HBS.out HB2.out.size)))
              go_wp2
              go_ret
              exact ⟨rfl, HFIN.out, HBF.out⟩
end Go.Proofs.Ytgppbdcnpailaaa
