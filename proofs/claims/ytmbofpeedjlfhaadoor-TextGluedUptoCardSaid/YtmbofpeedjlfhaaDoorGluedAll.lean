import Derived.Test.YtmbofpeedjlfhaaDoorRows
import Derived.Test.YtmbofpeedjlfhaaDoorSeeS
import Derived.Test.YtmbofpeedjlfhaaDoorGluP
import Derived.Deep.CutRange
import Derived.Test.YtmbofpeedjlfhaaDoorTokS
import Derived.Test.YtmbofpeedjlfhaaDoorCode
import Derived.Test.YtmbofpeedjlfhaaDoorTokW
/-
  What an argument of bounded bulk is: its reading, level by level; a list of tokens that came in.
-/
namespace Go.Proofs.YtmbofpeedjlfhaaDoor
open Go.RowKit
set_option maxRecDepth 100000
set_option linter.unusedVariables false

/-- cells that read as some datum of a type, of bulk at most b -/
def SeenB {H : Type} (enc : TypeId × Value → H) (P : Program) (w : World) (held : Bool) (t : TypeId) (cs : List Value) (b : Nat) : Prop :=
  ∃ n d p, DataW.trod enc P w 0 (fun _ => true) held n t cs = some (d, p) ∧ Rows.uptoBulk d ≤ b
section
variable {H : Type} {enc : TypeId × Value → H} {P : Program} {w : World} {held : Bool}
theorem bulk_one (d : DataW H) : 1 ≤ Rows.uptoBulk d := by
  unfold Rows.uptoBulk
  split <;> omega
theorem bulk_all {l : List (DataW H)} : l.length ≤ Rows.uptoBulkAll l := by
  induction l with
  | nil => simp
  | cons a r ih =>
    have := bulk_one a
    simp only [Rows.uptoBulkAll, List.length_cons]
    omega
theorem bulk_le {d : DataW H} {l : List (DataW H)} (h : d ∈ l) : Rows.uptoBulk d ≤ Rows.uptoBulkAll l := by
  induction l with
  | nil => cases h
  | cons x r ih =>
    simp only [Rows.uptoBulkAll]
    cases List.mem_cons.1 h with
    | inl e => subst e; omega
    | inr e => have := ih e; omega
theorem seenB_int {t : TypeId} {k : IntKind} {cs : List Value} {b : Nat} (ht : P.underlying t = some (.int k)) (h : SeenB enc P w held t cs b) : ∃ a, cs = [.int k a] := by
  obtain ⟨n, d, p, h, _⟩ := h
  cases n with
  | zero => simp [DataW.trod] at h
  | succ n =>
    unfold DataW.trod at h
    rw [ht] at h
    split at h <;> simp_all
theorem seenB_string {t : TypeId} {cs : List Value} {b : Nat} (ht : P.underlying t = some .string) (h : SeenB enc P w held t cs b) : ∃ s : ByteArray, cs = [.string s] ∧ s.size ≤ b := by
  obtain ⟨n, d, p, h, hw⟩ := h
  cases n with
  | zero => simp [DataW.trod] at h
  | succ n =>
    unfold DataW.trod at h
    rw [ht] at h
    split at h <;> simp_all
    rename_i s
    obtain ⟨_, rfl, _⟩ := h
    simp only [Rows.uptoBulk, Array.length_toList] at hw
    have h9 : s.size + 1 ≤ b := hw
    omega
theorem seenB_struct {t : TypeId} {fs : Array Field} {cs : List Value} {b : Nat} (ht : P.underlying t = some (.struct fs)) (h : SeenB enc P w held t cs b) :
    cs.length = P.cellsOf t ∧ ∀ (i : Nat) (f : Field), fs[i]? = some f → SeenB enc P w held f.type ((cs.drop f.offset).take (P.cellsOf f.type)) b := by
  obtain ⟨n, d, p, h, hw⟩ := h
  obtain ⟨xs, m, rfl, hx, hl, hlen, hf⟩ := DataW.trod_struct ht h
  refine ⟨hl, fun i f hi => ?_⟩
  have hg := hf i f hi
  have hil : i < xs.length := by rw [hlen]; exact (Array.getElem?_eq_some_iff.1 hi).1
  rw [List.getElem?_eq_getElem hil] at hg
  injection hx with hd _
  subst hd
  refine ⟨m, xs[i].1, xs[i].2, hg, ?_⟩
  simp only [Rows.uptoBulk] at hw
  have := bulk_le (List.mem_map.2 ⟨_, List.getElem_mem hil, rfl⟩ : xs[i].1 ∈ xs.map (·.1))
  omega
theorem seenB_slice {t e : TypeId} {cs : List Value} {b : Nat} (ht : P.underlying t = some (.slice e)) (he : 0 < P.cellsOf e) (h : SeenB enc P w held t cs b) :
    ∃ A n c, cs = [.slice A n c] ∧ n ≤ c ∧ c ≤ maxLen ∧ n ≤ b ∧
      (0 < n → ∃ ad, A = some ad ∧ ad.block < w.heap.size ∧ ∀ i, i < n → ∃ vs, vs.length = P.cellsOf e ∧ (∀ j, j < P.cellsOf e → w.cell? ((ad.add (i * P.cellsOf e)).add j) = vs[j]?) ∧ SeenB enc P w held e vs b) := by
  obtain ⟨n, d, p, h, hw⟩ := h
  rcases DataW.trod_slice ht h with ⟨rfl, _⟩ | ⟨a, len, cap, elems, rest, m, _, rfl, hx, _, hl, hc, hlen, hel, hre, _⟩
  · exact ⟨none, 0, 0, rfl, Nat.le_refl _, Nat.zero_le _, Nat.zero_le _, fun h => absurd h (by omega)⟩
  · injection hx with hd _
    subst hd
    simp only [Rows.uptoBulk] at hw
    have hall : ∀ i, i < len → ∃ vs, vs.length = P.cellsOf e ∧ (∀ j, j < P.cellsOf e → w.cell? ((a.add (i * P.cellsOf e)).add j) = vs[j]?) ∧ SeenB enc P w held e vs b ∧ a.block < w.heap.size := by
      intro i hi
      have hE := hel i hi
      have hil : i < elems.length := by omega
      rw [List.getElem?_eq_getElem hil] at hE
      simp only [Option.bind_eq_some_iff] at hE
      obtain ⟨vs, hvs, htr⟩ := hE
      have hcs := World.cells?_some hvs
      have hb := World.cells?_block hvs he
      rw [block_of_add] at hb
      refine ⟨vs, hcs.2.1, hcs.2.2, ⟨m, elems[i].1, elems[i].2, htr, ?_⟩, hb⟩
      have := bulk_le (List.mem_map.2 ⟨_, List.getElem_mem hil, rfl⟩ : elems[i].1 ∈ elems.map (·.1))
      omega
    refine ⟨some a, len, cap, rfl, hl, hc, ?_, fun h0 => ⟨a, rfl, ?_, fun i hi => ?_⟩⟩
    · have h9 := bulk_all (l := elems.map (·.1))
      rw [List.length_map, hlen] at h9
      omega
    · obtain ⟨_, _, _, _, hb⟩ := hall 0 h0
      exact hb
    · obtain ⟨vs, h1, h2, h3, _⟩ := hall i hi
      exact ⟨vs, h1, h2, h3⟩
end
theorem three_of_len {α : Type} {l : List α} (h : l.length = 3) : ∃ x y z, l = [x, y, z] := by
  match l, h with
  | [x, y, z], _ => exact ⟨x, y, z, rfl⟩
theorem seenB_tok {H : Type} {enc : TypeId × Value → H} {w : World} {held : Bool} {vs : List Value} {b : Nat} (h : SeenB enc Tryd.prog w held 36 vs b) : ∃ t : TokV, vs = [.int .u8 t.1, .int .i64 t.2.1, .string t.2.2] ∧ t.2.2.size ≤ b := by
  obtain ⟨hl, hf⟩ := seenB_struct Tryd.underlying36 h
  rw [show Tryd.prog.cellsOf 36 = 3 by kernel_rfl] at hl
  obtain ⟨x, y, z, rfl⟩ := three_of_len hl
  have h0 := hf 0 _ rfl
  have h1 := hf 1 _ rfl
  have h2 := hf 2 _ rfl
  obtain ⟨k, hk⟩ := seenB_int (k := .u8) (by kernel_rfl) h0
  obtain ⟨a, ha⟩ := seenB_int (k := .i64) (by kernel_rfl) h1
  obtain ⟨s, hs, hb⟩ := seenB_string (by kernel_rfl) h2
  have e0 : [x] = [Value.int .u8 k] := hk
  have e1 : [y] = [Value.int .i64 a] := ha
  have e2 : [z] = [Value.string s] := hs
  injection e0 with e0
  injection e1 with e1
  injection e2 with e2
  exact ⟨(k, a, s), by rw [e0, e1, e2], hb⟩
theorem toks_arg {H : Type} {enc : TypeId × Value → H} {base b : Nat} {v : Value} {w : World} (hv : Value.okWide Tryd.prog w .any base 24 v) (h : SeenB enc Tryd.prog w true 24 v.cells.toList b) :
    ∃ (A : Option Addr) (n c : Nat) (tk : List TokV), v = .slice A n c ∧ n ≤ c ∧ n ≤ b ∧ Reads w w.heap.size 3 A n (tCells tk) ∧ ∀ k, (tokAt tk k).2.2.size ≤ b := by
  obtain ⟨a, len, cap, rfl⟩ := WideShapes.okWide_slice Tryd.underlying24 hv
  obtain ⟨A, n, c, hcs, h1, h2, h3, h4⟩ := seenB_slice Tryd.underlying24 (by rw [show Tryd.prog.cellsOf 36 = 3 by kernel_rfl]; decide) h
  simp [Value.cells] at hcs
  obtain ⟨rfl, rfl, rfl⟩ := hcs
  rcases Nat.eq_zero_or_pos len with rfl | hn
  · exact ⟨a, 0, cap, [], rfl, h1, h3, ⟨by simp [tCells], fun h => absurd h (by omega)⟩, fun k => by unfold tokAt; exact Nat.zero_le _⟩
  · obtain ⟨ad, rfl, hb, hi⟩ := h4 hn
    have e3 : Tryd.prog.cellsOf 36 = 3 := by kernel_rfl
    have hv2 : ∀ i, i < len → ∃ t : TokV, (∀ j, j < 3 → w.cell? (ad.add (i * 3 + j)) = ([.int .u8 t.1, .int .i64 t.2.1, .string t.2.2] : List Value)[j]?) ∧ t.2.2.size ≤ b := by
      intro i hlt
      obtain ⟨vs, hl, hcell, hs⟩ := hi i hlt
      obtain ⟨t, rfl, hz⟩ := seenB_tok hs
      refine ⟨t, fun j hj => ?_, hz⟩
      have := hcell j (by rw [e3]; exact hj)
      rw [e3, add_of_add] at this
      exact this
    obtain ⟨f, hf⟩ := skolem_lt hv2
    have hget : ∀ i, i < len → ((List.range len).map f)[i]? = some (f i) := fun i hi => by rw [List.getElem?_map, List.getElem?_range hi]; rfl
    refine ⟨some ad, len, cap, (List.range len).map f, rfl, h1, h3, ⟨by rw [tCells_len]; simp, fun _ => ⟨ad, rfl, hb, fun j u hu => ?_⟩⟩, fun k => ?_⟩
    · have hj : j < len * 3 := by
        have := (List.getElem?_eq_some_iff.1 hu).1
        rw [tCells_len] at this
        simpa using this
      obtain ⟨i, r, hr, rfl⟩ : ∃ i r, r < 3 ∧ j = i * 3 + r := ⟨j / 3, j % 3, Nat.mod_lt _ (by decide), by omega⟩
      have hil : i < len := by omega
      obtain ⟨t0, t1, t2⟩ := tCells_get _ i _ (hget i hil)
      rw [(hf i hil).1 r hr, ← hu]
      rcases r with _ | _ | _ | r
      · rw [Nat.add_zero, t0]; rfl
      · rw [t1]; rfl
      · rw [t2]; rfl
      · omega
    · unfold tokAt
      rcases Nat.lt_or_ge k len with hk | hk
      · rw [hget k hk]; exact (hf k hk).2
      · rw [List.getElem?_eq_none (by simpa using hk)]
        exact Nat.zero_le _
end Go.Proofs.YtmbofpeedjlfhaaDoor
/-
  The walk of text.Glue.
-/
namespace Go.Proofs.YtmbofpeedjlfhaaDoor
open Go.RowKit Go.PlainAid Go.BigFrame
set_option linter.unusedVariables false
set_option maxRecDepth 100000

/-- the builder's state behind k tokens -/
def StG (tk : List TokV) (k : Nat) (lg : Bool) (b : Nat) (w : World) : Prop :=
  (lg = false → Lib.IsBuilderF 64 5 b b (Lib.byteCells (glueL tk k)) w ∧ (glueL tk k).length ≤ 524288) ∧ (lg = true → 524288 < (glueL tk k).length)
set_option maxHeartbeats 4000000 in
theorem tglue_any (A : Option Addr) (n c : Nat) (As : Option Addr) (ns cs B : Nat) (tk : List TokV) (sg : List ByteArray) (w : World) (hn : n ≤ 1048576) (hsz : ∀ k, (tokAt tk k).2.2.size ≤ 1048576) (hns : ns ≤ 140737488351232) (hnc : ns ≤ cs) (hr : Reads w B 3 A n (tCells tk)) (hs : Reads w B 1 As ns (strV sg)) (hB : B ≤ w.heap.size) :
    Calls Tryd.prog 17 #[.slice A n c, .slice As ns cs] w fun e w' => e = .returned (.tuple #[.string (glueN sg tk).1, .int .i64 (glueN sg tk).2]) ∧ Below w.heap.size w w' := by
  have hlen : tk.length = n := by have := hr.1; rw [tCells_len] at this; omega
  have HF := hide_ (fit_any As ns cs B sg w hns hnc hs hB)
  have HTO := hide_ (show ∀ (t : ByteArray) (W : World), t.size ≤ 1048576 → Below w.heap.size w W → Calls Tryd.prog 9 #[.string t, .slice As ns cs] W (ToksIs t (toksN t sg) W) from fun t W ht hW =>
    tokens_any t As ns cs B sg W (by omega) hns hnc (hs.below (hW.mono hB)) (Nat.le_trans hB hW.size))
  have HR := hide_ hr
  have HLEN := hide_ hlen
  have HBB := hide_ hB
  have HSZ := hide_ hsz
  cases hok : signsOk sg with
  | false =>
    rw [hok] at HF
    rw [glueN_signs sg tk hok]
    clear hr hs hlen hB hsz hok
    go_enter Tryd.func17, Tryd.ntmps17
    go_wp2_with fail
    refine HF.out.mono ?_
    rintro e w2 ⟨rfl, hb⟩
    have HB := hide_ hb
    clear hb
    go_wp2
    go_ret2
    exact ⟨rfl, HB.out⟩
  | true =>
  rw [hok] at HF
  obtain ⟨X, hX⟩ : ∃ X, X = glueN sg tk := ⟨_, rfl⟩
  have HBAD := hide_ (show ∀ k, k < n → goodB sg (tokAt tk k) = false → X = (⟨#[]⟩, 17) from fun k hk h => by rw [hX]; exact glueN_bad sg tk hok k (by omega) h)
  have HGOOD := hide_ (show goodTo sg tk n → X = if 524288 < (glueL tk n).length then (⟨#[]⟩, 15) else (⟨(glueL tk n).toArray⟩, 0) from fun h => by rw [hX]; rw [← hlen] at h ⊢; exact glueN_good sg tk hok h)
  rw [← hX]
  clear hr hs hlen hB hsz hok hX
  go_enter Tryd.func17, Tryd.ntmps17
  go_wp2_with fail
  refine HF.out.mono ?_
  rintro e w1 ⟨rfl, hb1⟩
  have HB1 := hide_ hb1
  have HBw := hide_ ((hb1.alloc hb1.size) (.cells #[.pointer none, .slice none 0 0] 64))
  have HI0 : Hid (StG tk 0 false w1.heap.size (w1.alloc (.cells #[.pointer none, .slice none 0 0] 64))) := hide_ ⟨fun _ => ⟨Lib.IsBuilderF.of (Lib.fresh_isBuilder 64 5 w1), by simp [glueL]⟩, fun h => by cases h⟩
  clear hb1 HF
  go_wp2_with fail
  go_loopw [7, 18] (fun lv i wr => ∃ (k : Nat) (lg : Bool), k ≤ n ∧ i = .int .i64 k ∧ lv = .bool lg ∧ Hid (goodTo sg tk k) ∧ Hid (StG tk k lg w1.heap.size wr) ∧ w1.heap.size < wr.heap.size ∧ Below w.heap.size w wr) (fun _ i _ => n - (intOf i).toNat)
  case atStart => exact ⟨0, false, Nat.zero_le _, rfl, rfl, hide_ (fun j hj => absurd hj (by omega)), HI0, by simp, HBw.out⟩
  case round =>
    clear HI0 HBw
    obtain ⟨k, lg, hk, rfl, rfl, HGT, HST, hbl, hb⟩ := hrel
    have HB := hide_ hb
    have HSW := hide_ hb.size
    by_cases hlt : k < n
    · obtain ⟨ad, rfl, hadb, q0, q1, q2⟩ := tok_cells (HR.out.below (hb.mono HBB.out)) k hlt
      have hads : (ad.add (k * 3)).block < wr.heap.size := by have := HBB.out; have := hb.size; omega
      have hgo := good_or sg (tokAt tk k)
      have HGB := hide_ (HBAD.out k hlt)
      have HTK := hide_ (HTO.out (tokAt tk k).2.2 (wr.alloc (.cells #[.int .u8 (tokAt tk k).1, .int .i64 (tokAt tk k).2.1, .string (tokAt tk k).2.2] 36)) (HSZ.out k) (hb.alloc hb.size _))
      have HTSZ := hide_ (HSZ.out k)
      have HPRV : Hid (∀ W : World, Below w.heap.size w W → 0 < k → W.cell? (ad.add ((k - 1) * 3)) = some (.int .u8 (tokAt tk (k - 1)).1)) := hide_ (fun W hW h0 => by
        obtain ⟨ad', e, _, p0, _⟩ := tok_cells (HR.out.below (hW.mono HBB.out)) (k - 1) (by omega)
        injection e with e
        subst e
        exact p0)
      have HGLB := hide_ (show glueB tk k = (if sepB tk k = true then [32] else []) ++ (tokAt tk k).2.2.data.toList from rfl)
      have HSEP := hide_ (show sepB tk k = (decide (0 < k) && decide ((tokAt tk k).1 ≠ 6) && decide ((tokAt tk (k - 1)).1 ≠ 6)) from rfl)
      obtain ⟨P0, hP0⟩ : ∃ P, P = (tokAt tk (k - 1)).1 := ⟨_, rfl⟩
      obtain ⟨⟨K, at9, T⟩, ht⟩ : ∃ t, t = tokAt tk k := ⟨_, rfl⟩
      rw [← ht] at q0 q1 q2 hgo HGB HTK HTSZ HGLB HSEP
      rw [← hP0] at HPRV HSEP
      have HT9 := hide_ ht
      simp only at q0 q1 q2 HTK hgo HTSZ HGLB HSEP
      have HBX := hide_ (Blk.new wr 36 #[.int .u8 K, .int .i64 at9, .string T])
      have HB9 := hide_ (hb.alloc hb.size (.cells #[.int .u8 K, .int .i64 at9, .string T] 36))
      clear ht hP0 hb hadb
      rcases hgo with ⟨hg, ⟨xk, xa, xe⟩, hx, h1, h2, h3⟩ | ⟨hg, hbad⟩
      · simp only at h1 h2
        subst h1
        rw [hx] at HTK
        unfold ToksIs at HTK
        simp only [Option.getD_some, List.length_cons, List.length_nil] at HTK
        have hce : tkCells T [(xk, xa, xe)] = [.int .u8 xk, .int .i64 xa, .string T] := by
          show [Value.int .u8 xk, .int .i64 xa, .string (T.extract xa xe)] = _
          rw [h2]
        rw [hce] at HTK
        have HG := hide_ hg
        have HT3 := hide_ h3
        clear hx hce hg h2 h3 HGB
        go_wp2_with fail
        refine HTK.out.mono ?_
        rintro e w3 ⟨v, rfl, hown, hb3⟩
        obtain ⟨g, cv, rfl⟩ := ownsRow_some hown (by decide)
        have hO := one_row (r := ⟨36, 3, .slice (some ⟨g, 0, none⟩) 1 cv, 1, [.int .u8 xk, .int .i64 xa, .string T]⟩) hown
        have c0 := hO.cell (i := 0) (j := 0) rfl rfl
        have c2 := hO.cell (i := 0) (j := 2) rfl rfl
        have hg9 := (hO.base (i := 0) rfl).2
        have HBX3 := hide_ (HBX.out.below hb3 (by simp))
        have b0 := HBX3.out.cell 0
        have b2 := HBX3.out.cell 2
        have hbx := HBX3.out.lt
        simp at b0 b2
        have HB3 := hide_ (HB9.out.trans (hb3.mono (by have := HSW.out; simp; omega)))
        have HBL : Hid (Below wr.heap.size wr w3) := hide_ (((Below.refl _ wr).alloc (Nat.le_refl _) _).trans (hb3.mono (by simp)))
        clear hO hown hb3 q0 q1 q2
        go_upto_region 9 with (fail)
        go_big_quiet (fail)
        cases lg with
        | true =>
          have HL := hide_ (HST.out.2 rfl)
          clear HST
          go_wp2
          go_roundw
          case rel => exact ⟨k + 1, true, by omega, by go_num, rfl, hide_ (goodTo_succ HGT.out (by rw [← HT9.out]; exact HG.out)), hide_ ⟨(fun h => by cases h), fun _ => Nat.lt_of_lt_of_le HL.out (glueL_mono tk 1 k)⟩, by have := HBL.out.size; simp; omega, below_draws2 HB3.out _⟩
          case measure => simp [intOf]; omega
        | false =>
          obtain ⟨hI, hL⟩ := HST.out.1 rfl
          have HI := hide_ (show Lib.IsBuilderF 64 5 w1.heap.size w1.heap.size (Lib.byteCells (glueL tk k)) w3 from builder_below hI HBL.out)
          have HL := hide_ hL
          obtain ⟨L, hLL⟩ : ∃ L, L = glueL tk k := ⟨_, rfl⟩
          rw [← hLL] at HI HL
          have HLL := hide_ hLL
          have HPR := hide_ (HPRV.out w3 HB3.out)
          clear HST hI hL hLL
          obtain ⟨S, hS⟩ : ∃ S, S = sepB tk k := ⟨_, rfl⟩
          rw [← hS] at HSEP HGLB
          clear hS
          go_upto_region 12 with (fail)
          go_cut [72] from 19 to 79 (fun sv wx => sv = .bool S ∧ w3.drewN nq = wx)
          case first =>
            by_cases h0 : 0 < k
            · have prv := HPR.out h0
              have hadp : (ad.add ((k - 1) * 3)).block < w3.heap.size := by rw [block_of_add] at hads ⊢; have := HBL.out.size; omega
              have z0 : decide (0 < (k : Int)) = true := decide_eq_true (by omega)
              have z0' : decide (0 < k) = true := decide_eq_true (by omega)
              have z1 : ((k : Int) - 1) = ((k - 1 : Nat) : Int) := by omega
              have z2 : k - 1 < n := by omega
              by_cases h6 : xk = 6
              · have d2 : (xk != 6) = false := by simp [h6]
                have HS1 := hide_ (show S = false by rw [HSEP.out, h6]; simp)
                clear h6 h0
                go_wp2
                go_meet
                exact ⟨by rw [HS1.out], rfl⟩
              · have d2 : (xk != 6) = true := bne_iff_ne.2 h6
                by_cases hp : P0 = 6
                · have d3 : (P0 != 6) = false := by simp [hp]
                  have HS1 := hide_ (show S = false by rw [HSEP.out, hp]; simp)
                  clear h6 h0 hp
                  go_wp2
                  go_meet
                  exact ⟨by rw [HS1.out], rfl⟩
                · have d3 : (P0 != 6) = true := bne_iff_ne.2 hp
                  have HS1 := hide_ (show S = true by rw [HSEP.out, decide_eq_true h0, decide_eq_true h6, decide_eq_true hp]; rfl)
                  clear h6 h0 hp
                  go_wp2
                  go_meet
                  exact ⟨by rw [HS1.out], rfl⟩
            · have z0 : decide (0 < (k : Int)) = false := decide_eq_false (by omega)
              have z0' : decide (0 < k) = false := decide_eq_false (by omega)
              have HS1 := hide_ (show S = false by rw [HSEP.out, decide_eq_false h0]; rfl)
              clear h0
              go_wp2
              go_meet
              exact ⟨by rw [HS1.out], rfl⟩
          case rest =>
            obtain ⟨rfl, rfl⟩ := hcut
            cases S
            · have HN := hide_ (show glueL tk (k + 1) = L ++ T.data.toList by rw [glueL, HGLB.out, ← HLL.out]; rfl)
              have HCC := hide_ (show Lib.byteCells L ++ Lib.strCells T = Lib.byteCells (glueL tk (k + 1)) by rw [HN.out, Lib.strCells_eq, Lib.byteCells_append])
              have HLN := hide_ (show (Lib.byteCells L).length ≤ 524288 by rw [Lib.byteCells_length]; exact HL.out)
              go_wp2_with fail
              refine (bld_string w1.heap.size w1.heap.size (Lib.byteCells L) T (w3.drewN nq) HI.out (by have := HLN.out; have := HT3.out; omega) (by have := HBL.out.size; rw [World.heap_drewN]; omega)).mono ?_
              rintro e w5 ⟨rfl, h2, b2, _⟩
              rw [HCC.out] at h2
              have HI5 := hide_ (isB_k h2)
              have HLE := hide_ (Tryd.Builder_Len_f w1.heap.size w1.heap.size (Lib.byteCells (glueL tk (k + 1))) w5 (isB_k h2))
              have HB5 := hide_ ((below_draws2 HB3.out nq).trans (b2.mono HB1.out.size))
              have HS5 := hide_ b2.size
              obtain ⟨N, hN⟩ : ∃ N : Nat, N = (Lib.byteCells (glueL tk (k + 1))).length := ⟨_, rfl⟩
              rw [← hN] at HLE
              have HNN := hide_ (show N = (glueL tk (k + 1)).length by rw [hN, Lib.byteCells_length])
              have HNB := hide_ (show N ≤ 1048577 by rw [hN, Lib.byteCells_length, HN.out, List.length_append]; have := HL.out; have := HT3.out; show L.length + T.size ≤ _; omega)
              clear h2 b2 hN HCC HN
              go_wp2_with fail
              refine HLE.out.mono ?_
              rintro e w6 ⟨rfl, rfl⟩
              by_cases hbig : 524288 < N
              · have dN : decide (524288 < (N : Int)) = true := decide_eq_true (by omega)
                have HBG := hide_ hbig
                clear hbig
                go_wp2
                go_roundw
                case rel => first | exact ⟨k + 1, true, by omega, by go_num, rfl, hide_ (goodTo_succ HGT.out (by rw [← HT9.out]; exact HG.out)), hide_ ⟨(fun h => by cases h), fun _ => by have := HNN.out; have := HBG.out; omega⟩, by have := HBL.out.size; have := HS5.out; rw [World.heap_drewN] at this; omega, HB5.out⟩ | ((repeat apply Exists.intro); exact ⟨⟨k + 1, true, by omega, by go_num, rfl, hide_ (goodTo_succ HGT.out (by rw [← HT9.out]; exact HG.out)), hide_ ⟨(fun h => by cases h), fun _ => by have := HNN.out; have := HBG.out; omega⟩, by have := HBL.out.size; have := HS5.out; rw [World.heap_drewN] at this; omega, HB5.out⟩, rfl⟩)
                case measure => simp [intOf]; omega
              · have dN : decide (524288 < (N : Int)) = false := decide_eq_false (by omega)
                have HBG := hide_ hbig
                clear hbig
                go_wp2
                go_roundw
                case rel => first | exact ⟨k + 1, false, by omega, by go_num, rfl, hide_ (goodTo_succ HGT.out (by rw [← HT9.out]; exact HG.out)), hide_ ⟨fun _ => ⟨HI5.out, by have := HNN.out; have := HBG.out; omega⟩, fun h => by cases h⟩, by have := HBL.out.size; have := HS5.out; rw [World.heap_drewN] at this; omega, HB5.out⟩ | ((repeat apply Exists.intro); exact ⟨⟨k + 1, false, by omega, by go_num, rfl, hide_ (goodTo_succ HGT.out (by rw [← HT9.out]; exact HG.out)), hide_ ⟨fun _ => ⟨HI5.out, by have := HNN.out; have := HBG.out; omega⟩, fun h => by cases h⟩, by have := HBL.out.size; have := HS5.out; rw [World.heap_drewN] at this; omega, HB5.out⟩, rfl⟩)
                case measure => simp [intOf]; omega
            · have HN := hide_ (show glueL tk (k + 1) = L ++ (([32] : List UInt8) ++ T.data.toList) by rw [glueL, HGLB.out, ← HLL.out]; rfl)
              have HCC := hide_ (show (Lib.byteCells L ++ [.int .u8 32]) ++ Lib.strCells T = Lib.byteCells (glueL tk (k + 1)) by rw [HN.out, Lib.strCells_eq, Lib.byteCells_append, Lib.byteCells_append, List.append_assoc]; rfl)
              have HLN := hide_ (show (Lib.byteCells L).length ≤ 524288 by rw [Lib.byteCells_length]; exact HL.out)
              go_wp2_with fail
              refine (bld_byte w1.heap.size w1.heap.size (Lib.byteCells L) 32 (w3.drewN nq) HI.out (by have := HLN.out; omega) (by have := HBL.out.size; rw [World.heap_drewN]; omega)).mono ?_
              rintro e w4 ⟨rfl, h4, b4, k4⟩
              have HI4 := hide_ (isB_k h4)
              have HB4 := hide_ b4
              have HBX4 := hide_ (others_blk (e := 5) k4 (show Blk (w3.drewN nq) wr.heap.size 36 _ from HBX3.out) (by omega) (by decide))
              have e2 := HBX4.out.cell 2
              have hbx4 := HBX4.out.lt
              have HS4 := hide_ b4.size
              simp at e2
              clear h4 b4 k4
              go_wp2_with fail
              refine (bld_string w1.heap.size w1.heap.size (Lib.byteCells L ++ [.int .u8 32]) T w4 HI4.out (by have := HLN.out; have := HT3.out; simp only [List.length_append, List.length_cons, List.length_nil]; omega) (by have := HBL.out.size; have := HS4.out; rw [World.heap_drewN] at this; omega)).mono ?_
              rintro e w5 ⟨rfl, h2, b2, _⟩
              rw [HCC.out] at h2
              have HI5 := hide_ (isB_k h2)
              have HLE := hide_ (Tryd.Builder_Len_f w1.heap.size w1.heap.size (Lib.byteCells (glueL tk (k + 1))) w5 (isB_k h2))
              have HB5 := hide_ (((below_draws2 HB3.out nq).trans (HB4.out.mono HB1.out.size)).trans (b2.mono HB1.out.size))
              have HS5 := hide_ b2.size
              obtain ⟨N, hN⟩ : ∃ N : Nat, N = (Lib.byteCells (glueL tk (k + 1))).length := ⟨_, rfl⟩
              rw [← hN] at HLE
              have HNN := hide_ (show N = (glueL tk (k + 1)).length by rw [hN, Lib.byteCells_length])
              have HNB := hide_ (show N ≤ 1048578 by rw [hN, Lib.byteCells_length, HN.out, List.length_append, List.length_append]; have := HL.out; have := HT3.out; show L.length + (1 + T.size) ≤ _; omega)
              clear h2 b2 hN HCC HN
              go_wp2_with fail
              refine HLE.out.mono ?_
              rintro e w6 ⟨rfl, rfl⟩
              by_cases hbig : 524288 < N
              · have dN : decide (524288 < (N : Int)) = true := decide_eq_true (by omega)
                have HBG := hide_ hbig
                clear hbig
                go_wp2
                go_roundw
                case rel => first | exact ⟨k + 1, true, by omega, by go_num, rfl, hide_ (goodTo_succ HGT.out (by rw [← HT9.out]; exact HG.out)), hide_ ⟨(fun h => by cases h), fun _ => by have := HNN.out; have := HBG.out; omega⟩, by have := HBL.out.size; have h8 := HS4.out; have h9 := HS5.out; rw [World.heap_drewN] at h8; omega, HB5.out⟩ | ((repeat apply Exists.intro); exact ⟨⟨k + 1, true, by omega, by go_num, rfl, hide_ (goodTo_succ HGT.out (by rw [← HT9.out]; exact HG.out)), hide_ ⟨(fun h => by cases h), fun _ => by have := HNN.out; have := HBG.out; omega⟩, by have := HBL.out.size; have h8 := HS4.out; have h9 := HS5.out; rw [World.heap_drewN] at h8; omega, HB5.out⟩, rfl⟩)
                case measure => simp [intOf]; omega
              · have dN : decide (524288 < (N : Int)) = false := decide_eq_false (by omega)
                have HBG := hide_ hbig
                clear hbig
                go_wp2
                go_roundw
                case rel => first | exact ⟨k + 1, false, by omega, by go_num, rfl, hide_ (goodTo_succ HGT.out (by rw [← HT9.out]; exact HG.out)), hide_ ⟨fun _ => ⟨HI5.out, by have := HNN.out; have := HBG.out; omega⟩, fun h => by cases h⟩, by have := HBL.out.size; have h8 := HS4.out; have h9 := HS5.out; rw [World.heap_drewN] at h8; omega, HB5.out⟩ | ((repeat apply Exists.intro); exact ⟨⟨k + 1, false, by omega, by go_num, rfl, hide_ (goodTo_succ HGT.out (by rw [← HT9.out]; exact HG.out)), hide_ ⟨fun _ => ⟨HI5.out, by have := HNN.out; have := HBG.out; omega⟩, fun h => by cases h⟩, by have := HBL.out.size; have h8 := HS4.out; have h9 := HS5.out; rw [World.heap_drewN] at h8; omega, HB5.out⟩, rfl⟩)
                case measure => simp [intOf]; omega
      · have HXB := hide_ (HGB.out hg)
        clear HGB hg HST HPRV
        rcases hbad with ⟨p, er, hx, her⟩ | ⟨l, hx, hll⟩ | ⟨x, hx, hne⟩ | ⟨x, hx, heq, hne⟩
        · rw [hx] at HTK
          unfold ToksIs at HTK
          simp only [Option.getD_none, List.length_nil] at HTK
          have d1 : (er != 0) = true := bne_iff_ne.2 her
          clear hx her
          go_wp2_with fail
          refine HTK.out.mono ?_
          rintro e w3 ⟨v, rfl, hown, hb3⟩
          obtain ⟨A2, c2, rfl, _, _⟩ := ownsRow_slice hown
          have HB3 := hide_ (HB9.out.trans (hb3.mono (by have := HSW.out; simp; omega)))
          clear hown hb3 q0 q1 q2
          go_upto_region 9 with (fail)
          go_big_quiet (fail)
          go_wp2
          go_ret2
          exact ⟨by rw [HXB.out]; rfl, below_draws2 HB3.out _⟩
        · rw [hx] at HTK
          unfold ToksIs at HTK
          simp only [Option.getD_some] at HTK
          have d1 : ((l.length : Int) != 1) = true := bne_iff_ne.2 (by omega)
          clear hx hll
          go_wp2_with fail
          refine HTK.out.mono ?_
          rintro e w3 ⟨v, rfl, hown, hb3⟩
          obtain ⟨A2, c2, rfl, _, _⟩ := ownsRow_slice hown
          have HB3 := hide_ (HB9.out.trans (hb3.mono (by have := HSW.out; simp; omega)))
          clear hown hb3 q0 q1 q2
          go_upto_region 9 with (fail)
          go_big_quiet (fail)
          go_wp2
          go_ret2
          exact ⟨by rw [HXB.out]; rfl, below_draws2 HB3.out _⟩
        · obtain ⟨xk, xa, xe⟩ := x
          rw [hx] at HTK
          unfold ToksIs at HTK
          simp only [Option.getD_some, List.length_cons, List.length_nil] at HTK
          simp only at hne
          rw [show tkCells T [(xk, xa, xe)] = [.int .u8 xk, .int .i64 xa, .string (T.extract xa xe)] from rfl] at HTK
          have d1 : (xk != K) = true := bne_iff_ne.2 hne
          clear hx hne
          go_wp2_with fail
          refine HTK.out.mono ?_
          rintro e w3 ⟨v, rfl, hown, hb3⟩
          obtain ⟨g, cv, rfl⟩ := ownsRow_some hown (by decide)
          have hO := one_row (r := ⟨36, 3, .slice (some ⟨g, 0, none⟩) 1 cv, 1, [.int .u8 xk, .int .i64 xa, .string (T.extract xa xe)]⟩) hown
          have c0 := hO.cell (i := 0) (j := 0) rfl rfl
          have hg9 := (hO.base (i := 0) rfl).2
          have HBX3 := hide_ (HBX.out.below hb3 (by simp))
          have b0 := HBX3.out.cell 0
          have hbx := HBX3.out.lt
          simp at b0
          have HB3 := hide_ (HB9.out.trans (hb3.mono (by have := HSW.out; simp; omega)))
          clear hO hown hb3 q0 q1 q2
          go_upto_region 9 with (fail)
          go_big_quiet (fail)
          go_wp2
          go_ret2
          exact ⟨by rw [HXB.out]; rfl, below_draws2 HB3.out _⟩
        · obtain ⟨xk, xa, xe⟩ := x
          rw [hx] at HTK
          unfold ToksIs at HTK
          simp only [Option.getD_some, List.length_cons, List.length_nil] at HTK
          simp only at hne heq
          subst heq
          rw [show tkCells T [(xk, xa, xe)] = [.int .u8 xk, .int .i64 xa, .string (T.extract xa xe)] from rfl] at HTK
          obtain ⟨Y, hY⟩ : ∃ Y, Y = T.extract xa xe := ⟨_, rfl⟩
          rw [← hY] at HTK hne
          have d1 := toList_ne hne
          clear hx hne hY
          go_wp2_with fail
          refine HTK.out.mono ?_
          rintro e w3 ⟨v, rfl, hown, hb3⟩
          obtain ⟨g, cv, rfl⟩ := ownsRow_some hown (by decide)
          have hO := one_row (r := ⟨36, 3, .slice (some ⟨g, 0, none⟩) 1 cv, 1, [.int .u8 xk, .int .i64 xa, .string Y]⟩) hown
          have c0 := hO.cell (i := 0) (j := 0) rfl rfl
          have c2 := hO.cell (i := 0) (j := 2) rfl rfl
          have hg9 := (hO.base (i := 0) rfl).2
          have HBX3 := hide_ (HBX.out.below hb3 (by simp))
          have b0 := HBX3.out.cell 0
          have b2 := HBX3.out.cell 2
          have hbx := HBX3.out.lt
          simp at b0 b2
          have HB3 := hide_ (HB9.out.trans (hb3.mono (by have := HSW.out; simp; omega)))
          clear hO hown hb3 q0 q1 q2
          go_upto_region 9 with (fail)
          go_big_quiet (fail)
          go_wp2
          go_ret2
          exact ⟨by rw [HXB.out]; rfl, below_draws2 HB3.out _⟩
    · obtain rfl : k = n := by omega
      have hX := HGOOD.out HGT.out
      clear hb
      cases lg with
      | true =>
        have HX := hide_ (show X = (⟨#[]⟩, 15) by rw [hX, if_pos (HST.out.2 rfl)])
        clear hX HST
        go_wp2
        go_ret2
        exact ⟨by rw [HX.out]; rfl, HB.out⟩
      | false =>
        obtain ⟨hI, hL⟩ := HST.out.1 rfl
        have HX := hide_ (show X = (⟨(glueL tk k).toArray⟩, 0) by rw [hX, if_neg (by omega)])
        have HSTR := hide_ (Tryd.Builder_String_any_f w1.heap.size w1.heap.size (glueL tk k) wr hI (by omega))
        clear hX HST hI hL
        go_wp2_with fail
        refine HSTR.out.mono ?_
        rintro e w7 ⟨rfl, _, hb7⟩
        have HB7 := hide_ (HB.out.trans (hb7.mono HB1.out.size))
        clear hb7
        go_wp2
        go_ret2
        exact ⟨by rw [HX.out]; rfl, HB7.out⟩
end Go.Proofs.YtmbofpeedjlfhaaDoor
/-
  The plain law of glued tokens, part 1: a token's bytes are cut into that token wherever they stand, if a blank, a line's end or the text's end comes behind.
-/
namespace Go.Proofs.YtmbofpeedjlfhaaDoor
set_option linter.unusedVariables false
set_option linter.unusedSimpArgs false

/-- the same n bytes stand at both places -/
def SameAt (s : ByteArray) (i : Nat) (s' : ByteArray) (i' n : Nat) : Prop := i + n ≤ s.size ∧ i' + n ≤ s'.size ∧ ∀ k, k < n → bn s' (i' + k) = bn s (i + k)
theorem SameAt.drop {s s' : ByteArray} {i i' n : Nat} (h : SameAt s i s' i' n) (m : Nat) (hm : m ≤ n) : SameAt s (i + m) s' (i' + m) (n - m) := by
  refine ⟨by have := h.1; omega, by have := h.2.1; omega, fun k hk => ?_⟩
  have := h.2.2 (m + k) (by omega)
  rw [Nat.add_assoc, Nat.add_assoc]
  exact this
/-- what may come behind -/
def Halt (s : ByteArray) (i : Nat) : Prop := i = s.size ∨ (i < s.size ∧ (bn s i = 32 ∨ bn s i = 10))
theorem cut_bn (s : ByteArray) (i : Nat) (hi : i < s.size) (h : bn s i < 128) : cutR s i = bn s i ∧ cutN s i = 1 := by
  have hr : isRune (bn s i) := ⟨by omega, by omega⟩
  have hc : codeL (bn s i) = [bn s i] := by unfold codeL; rw [if_pos h]
  have hm : Matches s i (bn s i) := by
    unfold Matches
    rw [hc]
    refine ⟨by simp; omega, fun k hk => ?_⟩
    obtain rfl : k = 0 := by simpa using hk
    rfl
  have hd := decode_of s i _ hr hm
  rw [hc] at hd
  refine ⟨?_, by unfold cutN; rw [hd]; rfl⟩
  unfold cutR
  rw [if_neg (not_lost_of s i _ hr hm), hd]
theorem cut_move {s s' : ByteArray} {i i' n : Nat} (h : SameAt s i s' i' n) (hi : i < s.size) (hl : ¬ lost s i) (hn : cutN s i ≤ n) : cutR s' i' = cutR s i ∧ cutN s' i' = cutN s i := by
  obtain ⟨hr, hm, hc⟩ := cut_code s i hi hl
  obtain ⟨r, hrr⟩ : ∃ r, r = (Utf8.decode s i).1 := ⟨_, rfl⟩
  have hm' : Matches s' i' (Utf8.decode s i).1 := by
    rw [← hrr] at hm hc ⊢
    refine ⟨by have := h.2.1; omega, fun k hk => ?_⟩
    rw [h.2.2 k (by omega)]
    exact hm.2 k hk
  have hd := decode_of s' i' _ hr hm'
  refine ⟨?_, by unfold cutN at hc ⊢; rw [hd]; exact hc.symm⟩
  unfold cutR
  rw [if_neg (not_lost_of s' i' _ hr hm'), if_neg hl, hd]
theorem nam_not_lost (s : ByteArray) (i : Nat) (h : namR (cutR s i) = true) : ¬ lost s i := by
  intro hl
  have : cutR s i < 0 := by unfold cutR; rw [if_pos hl]; omega
  unfold namR letR digR at h
  simp only [Bool.or_eq_true, Bool.and_eq_true, decide_eq_true_eq] at h
  omega
theorem halt_nam {s : ByteArray} {i : Nat} (h : Halt s i) : nameE s i = i := by
  rcases h with h | ⟨h, h1⟩
  · exact nameE_ge s i (by omega)
  · refine nameE_stop s i ?_
    rw [(cut_bn s i h (by omega)).1]
    unfold namR letR digR
    rcases h1 with h1 | h1 <;> rw [h1] <;> decide
theorem name_move (s s' : ByteArray) : ∀ (n i i' : Nat), SameAt s i s' i' n → nameE s i = i + n → Halt s' (i' + n) → nameE s' i' = i' + n := by
  intro n
  induction n using Nat.strongRecOn with
  | _ n ih =>
    intro i i' h he hh
    rcases Nat.eq_zero_or_pos n with rfl | hn
    · exact halt_nam hh
    · have hi : i < s.size := by have := h.1; omega
      have hi' : i' < s'.size := by have := h.2.1; omega
      have hnam : namR (cutR s i) = true := by
        rw [← Bool.not_eq_false]
        intro hf
        rw [nameE_stop s i hf] at he
        omega
      have hl := nam_not_lost s i hnam
      have hp := cutN_pos s i
      have hf := cutN_fits s i hi
      rw [nameE_step s i hi hnam] at he
      have hb := nameE_bd s (i + cutN s i) hf
      obtain ⟨e1, e2⟩ := cut_move h hi hl (by omega)
      rw [nameE_step s' i' hi' (by rw [e1]; exact hnam), e2]
      have := ih (n - cutN s i) (by omega) (i + cutN s i) (i' + cutN s i) (h.drop _ (by omega)) (by omega) (by rw [show i' + cutN s i + (n - cutN s i) = i' + n by omega]; exact hh)
      omega
theorem figF_at (s : ByteArray) (X : Bool) (m : Nat) (h : m < s.size) : figF s X (s.size - m) m = if figS s X m = true then figF s X (s.size - (m + 1)) (m + 1) else m := by
  obtain ⟨f, hf⟩ : ∃ f, s.size - m = f + 1 := ⟨s.size - m - 1, by omega⟩
  rw [hf, figF, if_pos h, show f = s.size - (m + 1) by omega]
theorem halt_fig {s : ByteArray} {i : Nat} (X : Bool) (h : Halt s i) : figF s X (s.size - i) i = i := by
  rcases h with h | ⟨h, h1⟩
  · rw [show s.size - i = 0 by omega]; rfl
  · rw [figF_at s X i h, if_neg]
    unfold figS figB
    rcases h1 with h1 | h1 <;> rw [h1] <;> simp
theorem fig_move (s s' : ByteArray) (X : Bool) : ∀ (n k k' : Nat), SameAt s k s' k' (n + 1) → figF s X (s.size - (k + 1)) (k + 1) = k + 1 + n → Halt s' (k' + 1 + n) → figF s' X (s'.size - (k' + 1)) (k' + 1) = k' + 1 + n := by
  intro n
  induction n with
  | zero => intro k k' h he hh; exact halt_fig X hh
  | succ n ih =>
    intro k k' h he hh
    have h1 : k + 1 < s.size := by have := h.1; omega
    have h1' : k' + 1 < s'.size := by have := h.2.1; omega
    rw [figF_at s X _ h1] at he
    have hs : figS s X (k + 1) = true := by
      rw [← Bool.not_eq_false]
      intro hf
      rw [if_neg (by rw [hf]; decide)] at he
      omega
    rw [if_pos hs] at he
    have e0 := h.2.2 0 (by omega)
    have e1 := h.2.2 1 (by omega)
    rw [Nat.add_zero, Nat.add_zero] at e0
    have hs' : figS s' X (k' + 1) = true := by
      unfold figS at hs ⊢
      rw [Nat.add_sub_cancel] at hs ⊢
      rw [e0, e1]
      exact hs
    rw [figF_at s' X _ h1', if_pos hs']
    have := ih (k + 1) (k' + 1) (h.drop 1 (by omega)) (by omega) (by rw [show k' + 1 + 1 + n = k' + 1 + (n + 1) by omega]; exact hh)
    omega
theorem litF_move (s s' : ByteArray) (q : Nat) : ∀ (n k k' f f' : Nat), SameAt s k s' k' n → litF s q f k = some (k + n) → s'.size - k' ≤ f' → litF s' q f' k' = some (k' + n) := by
  intro n
  induction n using Nat.strongRecOn with
  | _ n ih =>
    intro k k' f f' h he hf'
    have hb := litF_bd s q f k _ he
    have hk : k < s.size := by omega
    have hk' : k' < s'.size := by have := h.2.1; omega
    have e0 := h.2.2 0 (by omega)
    rw [Nat.add_zero, Nat.add_zero] at e0
    cases f with
    | zero => simp [litF] at he
    | succ f =>
      cases f' with
      | zero => omega
      | succ f' =>
        rw [litF, if_pos hk] at he
        rw [litF, if_pos hk', e0]
        split at he
        · rename_i hq
          rw [if_pos hq]
          injection he with he
          rw [show n = 1 by omega]
        · rename_i hq
          rw [if_neg hq]
          split at he
          · rename_i h92
            rw [if_pos h92]
            have hb2 := litF_bd s q f _ _ he
            have := ih (n - 2) (by omega) (k + 2) (k' + 2) f f' (h.drop 2 (by omega)) (by rw [he]; congr 1; omega) (by omega)
            rw [this]; congr 1; omega
          · rename_i h92
            rw [if_neg h92]
            split at he
            · cases he
            · rename_i h10
              rw [if_neg h10]
              have hb2 := litF_bd s q f _ _ he
              have := ih (n - 1) (by omega) (k + 1) (k' + 1) f f' (h.drop 1 (by omega)) (by rw [he]; congr 1; omega) (by omega)
              rw [this]; congr 1; omega
end Go.Proofs.YtmbofpeedjlfhaaDoor
/-
  The plain law of glued tokens, part 2: signs; a token moved.
-/
namespace Go.Proofs.YtmbofpeedjlfhaaDoor
set_option linter.unusedVariables false
set_option linter.unusedSimpArgs false

theorem bn_mid (s : ByteArray) (a b k : Nat) (hb : b ≤ s.size) (hk : a + k < b) : bn (s.extract a b) k = bn s (a + k) := by
  have h1 : k < (s.extract a b).size := by rw [ByteArray.size_extract]; omega
  rw [← bn_eq _ k h1, ← bn_eq s (a + k) (by omega)]
  congr 1
  exact ByteArray.getElem_extract ..
theorem text_ext {a b : ByteArray} (hz : a.size = b.size) (h : ∀ k, k < a.size → bn a k = bn b k) : a = b := by
  apply ByteArray.ext
  apply Array.ext hz
  intro k h1 h2
  apply UInt8.toNat_inj.1
  have := h k h1
  rw [← bn_eq a k h1, ← bn_eq b k h2] at this
  exact this
theorem same_extract {s s' : ByteArray} {i i' n : Nat} (h : SameAt s i s' i' n) : s'.extract i' (i' + n) = s.extract i (i + n) := by
  have z1 : (s'.extract i' (i' + n)).size = n := by rw [ByteArray.size_extract]; have := h.2.1; omega
  have z2 : (s.extract i (i + n)).size = n := by rw [ByteArray.size_extract]; have := h.1; omega
  refine text_ext (by rw [z1, z2]) fun k hk => ?_
  rw [z1] at hk
  rw [bn_mid _ _ _ _ h.2.1 (by omega), bn_mid _ _ _ _ h.1 (by omega)]
  exact h.2.2 k hk
theorem same_of_extract {s s' : ByteArray} {i i' n : Nat} (h1 : i + n ≤ s.size) (h2 : i' + n ≤ s'.size) (h : s'.extract i' (i' + n) = s.extract i (i + n)) : SameAt s i s' i' n := by
  refine ⟨h1, h2, fun k hk => ?_⟩
  rw [← bn_mid s' i' (i' + n) k h2 (by omega), h, bn_mid s i (i + n) k h1 (by omega)]
theorem sign_max (s : ByteArray) (i : Nat) : ∀ (l : List ByteArray) (b : ByteArray), b.size ≤ (l.foldl (bestS s i) b).size ∧ ∀ g ∈ l, fitsAt s i g → g.size ≤ (l.foldl (bestS s i) b).size := by
  intro l
  induction l with
  | nil => intro b; exact ⟨Nat.le_refl _, by simp⟩
  | cons a l ih =>
    intro b
    rw [List.foldl_cons]
    obtain ⟨h1, h2⟩ := ih (bestS s i b a)
    have h3 : b.size ≤ (bestS s i b a).size := by
      unfold bestS
      split
      · rename_i h; omega
      · exact Nat.le_refl _
    refine ⟨Nat.le_trans h3 h1, fun g hg hf => ?_⟩
    rcases List.mem_cons.1 hg with rfl | hg
    · refine Nat.le_trans ?_ h1
      unfold bestS
      split
      · exact Nat.le_refl _
      · rename_i h
        rcases Nat.lt_or_ge b.size g.size with h9 | h9
        · exact absurd ⟨h9, hf⟩ h
        · exact h9
    · exact h2 g hg hf
theorem sign_mem (s : ByteArray) (i : Nat) : ∀ (l : List ByteArray) (b : ByteArray), l.foldl (bestS s i) b = b ∨ l.foldl (bestS s i) b ∈ l := by
  intro l
  induction l with
  | nil => intro b; exact .inl rfl
  | cons a l ih =>
    intro b
    rw [List.foldl_cons]
    rcases ih (bestS s i b a) with h | h
    · rw [h]
      unfold bestS
      split
      · exact .inr (List.mem_cons_self ..)
      · exact .inl rfl
    · exact .inr (List.mem_cons_of_mem _ h)
theorem signs_byte {sg : List ByteArray} (hs : signsOk sg = true) {g : ByteArray} (hg : g ∈ sg) (k : Nat) (hk : k < g.size) : signC (bn g k) = true := by
  obtain ⟨j, hj⟩ := List.mem_iff_getElem?.1 hg
  have hjl := (List.getElem?_eq_some_iff.1 hj).1
  unfold signsOk at hs
  rw [Bool.and_eq_true] at hs
  have h1 := List.all_eq_true.1 hs.2 j (List.mem_range.2 hjl)
  unfold signAtOk at h1
  rw [Bool.and_eq_true, List.getD_eq_getElem?_getD, hj, Option.getD_some] at h1
  have h2 := h1.1
  unfold signOk at h2
  rw [Bool.and_eq_true] at h2
  have h3 := List.all_eq_true.1 h2.2 (g[k]'hk) (by
    have : g.data.toList[k]? = some (g[k]'hk) := by rw [Array.getElem?_toList]; exact Array.getElem?_eq_getElem hk
    exact List.mem_of_getElem? this)
  rw [bn_eq g k hk] at h3
  exact h3
theorem signC_bd {c : Nat} (h : signC c = true) : 32 < c ∧ c < 127 := by
  unfold signC at h
  simp only [Bool.and_eq_true, decide_eq_true_eq] at h
  omega
theorem sign_at {s : ByteArray} {i : Nat} {sg : List ByteArray} (hs : signsOk sg = true) (h0 : 0 < (signN s i sg).size) (k : Nat) (hk : k < (signN s i sg).size) : 32 < bn s (i + k) ∧ bn s (i + k) < 127 := by
  obtain ⟨f1, f2⟩ := signN_fits s i sg h0
  have hm : signN s i sg ∈ sg := by
    rcases sign_mem s i sg ⟨#[]⟩ with h | h
    · have h9 : signN s i sg = ⟨#[]⟩ := h
      rw [h9] at h0
      exact absurd h0 (by decide)
    · exact h
  have h1 := signC_bd (signs_byte hs hm k hk)
  rw [← f2, bn_mid s i _ k f1 (by omega)] at h1
  exact h1
theorem sign_move {s s' : ByteArray} {i i' : Nat} {sg : List ByteArray} (hs : signsOk sg = true) (h0 : 0 < (signN s i sg).size) (h : SameAt s i s' i' (signN s i sg).size) (hh : Halt s' (i' + (signN s i sg).size)) : (signN s' i' sg).size = (signN s i sg).size := by
  obtain ⟨f1, f2⟩ := signN_fits s i sg h0
  have hm : signN s i sg ∈ sg := by
    rcases sign_mem s i sg ⟨#[]⟩ with h | h
    · have h9 : signN s i sg = ⟨#[]⟩ := h
      rw [h9] at h0
      exact absurd h0 (by decide)
    · exact h
  have hf : fitsAt s' i' (signN s i sg) := ⟨h.2.1, by rw [same_extract h]; exact f2⟩
  have h1 : (signN s i sg).size ≤ (signN s' i' sg).size := (sign_max s' i' sg ⟨#[]⟩).2 _ hm hf
  rcases Nat.lt_or_ge (signN s i sg).size (signN s' i' sg).size with h2 | h2
  · have f3 := (signN_fits s' i' sg (by omega)).1
    have h3 := sign_at hs (show 0 < (signN s' i' sg).size by omega) _ h2
    rcases hh with hh | ⟨_, hh⟩ <;> omega
  · omega
theorem hex_move {s s' : ByteArray} {i i' n : Nat} (h : SameAt s i s' i' n) (hn : 0 < n) (he : figE s i = i + n) (hh : Halt s' (i' + n)) : hexB s' i' = hexB s i := by
  have e0 := h.2.2 0 hn
  rw [Nat.add_zero, Nat.add_zero] at e0
  have z1 := h.1
  have z2 := h.2.1
  rcases Nat.lt_or_ge 1 n with h1 | h1
  · have e1 := h.2.2 1 h1
    unfold hexB
    rw [e0, e1, decide_eq_true (show i + 1 < s.size by omega), decide_eq_true (show i' + 1 < s'.size by omega)]
  · obtain rfl : n = 1 := by omega
    have a1 : hexB s' i' = false := by
      unfold hexB
      rcases hh with hh | ⟨_, hh | hh⟩
      · rw [decide_eq_false (show ¬ i' + 1 < s'.size by omega)]; rfl
      · rw [hh]; simp
      · rw [hh]; simp
    have a2 : hexB s i = false := by
      rw [← Bool.not_eq_true]
      intro ht
      have ht0 := ht
      unfold hexB at ht
      simp only [Bool.and_eq_true, Bool.or_eq_true, decide_eq_true_eq] at ht
      obtain ⟨⟨t1, t2⟩, t3⟩ := ht
      unfold figE at he
      rw [figF_at s _ _ t1, if_pos] at he
      · have := (figF_bd s (hexB s i) (s.size - (i + 1 + 1)) (i + 1 + 1) (by omega)).1
        omega
      · unfold figS figB
        rcases t3 with t3 | t3 <;> rw [t3] <;> rfl
    rw [a1, a2]
theorem tok_move {s s' : ByteArray} {i i' n : Nat} {sg : List ByteArray} {K : Int} (hs : signsOk sg = true) (hi : i < s.size) (he : tokN s sg i = (K, ((i + n : Nat) : Int), 0)) (h : SameAt s i s' i' n) (hh : K = 6 ∨ Halt s' (i' + n)) : tokN s' sg i' = (K, ((i' + n : Nat) : Int), 0) := by
  have hn : 0 < n := by
    have := tokN_end s sg i hi (by rw [he])
    rw [he] at this
    simp only at this
    omega
  have e0 := h.2.2 0 hn
  rw [Nat.add_zero, Nat.add_zero] at e0
  have hi' : i' < s'.size := by have := h.2.1; omega
  have hx := same_extract h
  unfold tokN at he ⊢
  rw [e0]
  by_cases h10 : bn s i = 10
  · rw [if_pos h10] at he ⊢
    simp only [Prod.mk.injEq] at he ⊢
    exact ⟨he.1, by omega, trivial⟩
  rw [if_neg h10] at he ⊢
  by_cases hl : letR (cutR s i) = true ∨ cutR s i = 95
  · rw [if_pos hl] at he
    simp only [Prod.mk.injEq] at he
    obtain ⟨rfl, h2, _⟩ := he
    have hnam : namR (cutR s i) = true := by
      unfold namR
      rcases hl with hl | hl
      · rw [hl]; rfl
      · rw [hl]; rfl
    have hnl := nam_not_lost s i hnam
    have h3 := nameE_step s i hi hnam
    have h4 := nameE_bd s (i + cutN s i) (cutN_fits s i hi)
    obtain ⟨c1, c2⟩ := cut_move h hi hnl (by omega)
    rw [c1, if_pos hl]
    have := name_move s s' n i i' h (by omega) (hh.resolve_left (by decide))
    rw [this]
  rw [if_neg hl] at he
  have hA : bn s i < 128 := by
    by_cases hd : 48 ≤ bn s i ∧ bn s i ≤ 57
    · omega
    rw [if_neg hd] at he
    by_cases hq : bn s i = 34 ∨ bn s i = 39
    · omega
    rw [if_neg hq] at he
    by_cases hg : 0 < (signN s i sg).size
    · have := sign_at hs hg 0 hg
      rw [Nat.add_zero] at this
      omega
    rw [if_neg hg] at he
    split at he <;> simp at he
  have hc : cutR s' i' = cutR s i := by rw [(cut_bn s i hi hA).1, (cut_bn s' i' hi' (by rw [e0]; exact hA)).1, e0]
  rw [hc, if_neg hl]
  by_cases hd : 48 ≤ bn s i ∧ bn s i ≤ 57
  · rw [if_pos hd] at he ⊢
    simp only [Prod.mk.injEq] at he
    obtain ⟨rfl, h2, _⟩ := he
    have h2' : figE s i = i + n := by omega
    have hH : Halt s' (i' + n) := hh.resolve_left (by decide)
    have hX := hex_move h hn h2' hH
    unfold figE at h2' ⊢
    rw [hX]
    have := fig_move s s' (hexB s i) (n - 1) i i' (by rw [show n - 1 + 1 = n by omega]; exact h) (by rw [h2']; omega) (by rw [show i' + 1 + (n - 1) = i' + n by omega]; exact hH)
    rw [this, show i' + 1 + (n - 1) = i' + n by omega]
  rw [if_neg hd] at he ⊢
  by_cases hq : bn s i = 34 ∨ bn s i = 39
  · rw [if_pos hq] at he ⊢
    unfold litN at he ⊢
    rw [e0]
    cases hle : litE s i with
    | none =>
      rw [hle] at he
      simp at he
    | some e =>
      rw [hle] at he
      simp only at he
      have hee : e = i + n := by
        split at he <;> split at he <;> simp only [Prod.mk.injEq] at he <;> omega
      subst hee
      have hle' : litE s' i' = some (i' + n) := by
        unfold litE at hle ⊢
        rw [e0]
        have := litF_move s s' (bn s i) (n - 1) (i + 1) (i' + 1) _ (s'.size - (i' + 1)) (h.drop 1 (by omega)) (by rw [hle]; congr 1; omega) (Nat.le_refl _)
        rw [this]; congr 1; omega
      rw [hle']
      simp only
      rw [hx]
      split at he
      · rename_i h34
        split at he
        · rename_i hb
          simp only [Prod.mk.injEq] at he
          exact absurd he.2.2 hb
        · rename_i hb
          simp only [Prod.mk.injEq] at he
          simp only [if_pos h34, if_neg hb, Prod.mk.injEq]
          first | exact ⟨he.1, trivial, trivial⟩ | exact ⟨he.1, trivial⟩ | exact he.1
      · rename_i h34
        split at he
        · rename_i hb
          simp only [Prod.mk.injEq] at he
          exact absurd he.2.2 hb
        · rename_i hb
          simp only [Prod.mk.injEq] at he
          simp only [if_neg h34, if_neg hb, Prod.mk.injEq]
          first | exact ⟨he.1, trivial, trivial⟩ | exact ⟨he.1, trivial⟩ | exact he.1
  rw [if_neg hq] at he ⊢
  by_cases hg : 0 < (signN s i sg).size
  · rw [if_pos hg] at he
    simp only [Prod.mk.injEq] at he
    obtain ⟨rfl, h2, _⟩ := he
    have h2' : (signN s i sg).size = n := by omega
    have := sign_move hs hg (by rw [h2']; exact h) (by rw [h2']; exact hh.resolve_left (by decide))
    rw [this, if_pos hg, h2']
    rfl
  · rw [if_neg hg] at he
    split at he <;> simp at he
end Go.Proofs.YtmbofpeedjlfhaaDoor
/-
  The plain law of glued tokens, part 3: the tokens of a text are good; what they are glued to is cut into the same.
-/
namespace Go.Proofs.YtmbofpeedjlfhaaDoor
set_option linter.unusedVariables false
set_option linter.unusedSimpArgs false

/-- a token that some text was cut into -/
def TokFrom (sg : List ByteArray) (t : TokV) : Prop := ∃ (s : ByteArray) (i n : Nat), i < s.size ∧ 0 < n ∧ i + n ≤ s.size ∧ tokN s sg i = (t.1, ((i + n : Nat) : Int), 0) ∧ t.2.2 = s.extract i (i + n) ∧ ¬ (bn s i = 9 ∨ bn s i = 13 ∨ bn s i = 32) ∧ bn s i ≠ 35
theorem toks_from (s : ByteArray) (sg : List ByteArray) : ∀ (f i : Nat), s.size - i ≤ f → i ≤ s.size → ∀ l p, toksAt s sg i = (some l, p, 0) → ∀ t ∈ l, TokFrom sg (t.1, ((t.2.1 : Nat) : Int), s.extract t.2.1 t.2.2) := by
  intro f
  induction f with
  | zero =>
    intro i hf hi l p h
    rw [toksAt_ge s sg i (by omega)] at h
    injection h with h _
    injection h with h
    subst h
    intro t ht
    cases ht
  | succ f ih =>
    intro i hf hi l p h
    by_cases hlt : i < s.size
    · by_cases hb : bn s i = 9 ∨ bn s i = 13 ∨ bn s i = 32
      · rw [toksAt_blank s sg i hlt hb] at h
        exact ih (i + 1) (by omega) (by omega) l p h
      by_cases h35 : bn s i = 35
      · have hl := lineE_lt s i hlt h35
        rw [toksAt_note s sg i hlt h35] at h
        exact ih (lineE s i) (by omega) (by omega) l p h
      by_cases he : (tokN s sg i).2.2 = 0
      · have hend := tokN_end s sg i hlt he
        obtain ⟨K, E, ER, hT⟩ : ∃ K E ER, tokN s sg i = (K, E, ER) := ⟨_, _, _, rfl⟩
        rw [hT] at he hend
        simp only at he hend
        subst he
        obtain ⟨q, rfl⟩ : ∃ q : Nat, E = q := ⟨E.toNat, by omega⟩
        rw [toksAt_tok s sg i q K hlt hb h35 hT] at h
        cases hr : toksAt s sg q with
        | mk o pe =>
          obtain ⟨p2, e2⟩ := pe
          rw [hr] at h
          cases o with
          | none => cases h
          | some l2 =>
            unfold addTk at h
            simp only [Option.map_some, Prod.mk.injEq, Option.some.injEq] at h
            obtain ⟨rfl, rfl, rfl⟩ := h
            intro t ht
            rcases List.mem_append.1 ht with ht | ht
            · obtain rfl := List.mem_singleton.1 ht
              have e9 : i + (q - i) = q := by omega
              exact ⟨s, i, q - i, hlt, by omega, by omega, by rw [e9]; exact hT, by rw [e9], hb, h35⟩
            · exact ih q (by omega) (by omega) l2 p2 hr t ht
      · rw [toksAt_bad s sg i hlt hb h35 he] at h
        cases h
    · rw [toksAt_ge s sg i (by omega)] at h
      injection h with h _
      injection h with h
      subst h
      intro t ht
      cases ht
theorem from_size {sg : List ByteArray} {t : TokV} (h : TokFrom sg t) : 0 < t.2.2.size := by
  obtain ⟨s, i, n, h1, h2, h3, h4, h5, h6⟩ := h
  rw [h5, ByteArray.size_extract]
  omega
/-- where its bytes stand and a halt comes behind, there it is cut -/
theorem from_cut {sg : List ByteArray} {t : TokV} (h : TokFrom sg t) (hs : signsOk sg = true) (G : ByteArray) (q : Nat) (hq : q + t.2.2.size ≤ G.size) (hx : ∀ k, k < t.2.2.size → bn G (q + k) = bn t.2.2 k) (hh : t.1 = 6 ∨ Halt G (q + t.2.2.size)) :
    toksAt G sg q = addTk [(t.1, q, q + t.2.2.size)] (toksAt G sg (q + t.2.2.size)) ∧ G.extract q (q + t.2.2.size) = t.2.2 := by
  have hz := from_size h
  obtain ⟨s, i, n, h1, h2, h3, h4, h5, h6, h7⟩ := h
  have hn : t.2.2.size = n := by rw [h5, ByteArray.size_extract]; omega
  rw [hn] at hq hx hh ⊢
  have hS : SameAt s i G q n := ⟨h3, hq, fun k hk => by
    rw [hx k hk, h5, bn_mid s i (i + n) k h3 (by omega)]⟩
  have hm := tok_move hs h1 h4 hS hh
  have e0 := hS.2.2 0 h2
  rw [Nat.add_zero, Nat.add_zero] at e0
  exact ⟨toksAt_tok G sg q (q + n) t.1 (by omega) (by rw [e0]; exact h6) (by rw [e0]; exact h7) hm, by rw [same_extract hS, h5]⟩
theorem from_six {sg : List ByteArray} {t : TokV} (h : TokFrom sg t) (h6 : t.1 = 6) : bn t.2.2 0 = 10 := by
  obtain ⟨s, i, n, h1, h2, h3, h4, h5, _⟩ := h
  rw [h5, bn_mid s i (i + n) 0 h3 (by omega), Nat.add_zero]
  by_cases h10 : bn s i = 10
  · exact h10
  exfalso
  rw [h6] at h4
  unfold tokN litN at h4
  rw [if_neg h10] at h4
  split at h4
  · simp at h4
  split at h4
  · simp at h4
  split at h4
  · simp only at h4
    split at h4
    · split at h4 <;> simp at h4
    · split at h4 <;> split at h4 <;> simp at h4
  split at h4
  · simp at h4
  split at h4 <;> simp at h4
theorem from_good {sg : List ByteArray} {t : TokV} (h : TokFrom sg t) (hs : signsOk sg = true) (hz : t.2.2.size ≤ 524288) : goodB sg t = true := by
  obtain ⟨h1, h2⟩ := from_cut h hs t.2.2 0 (by omega) (fun k _ => by rw [Nat.zero_add]) (.inr (.inl (by omega)))
  have h3 : (toksN t.2.2 sg).1 = some [(t.1, 0, t.2.2.size)] := by
    unfold toksN
    rw [if_neg (by rw [hs]; decide), if_neg (by omega), h1, toksAt_ge _ _ _ (by omega)]
    simp [addTk]
  unfold goodB
  rw [h3]
  simp only
  rw [Nat.zero_add] at h2
  rw [h2]
  simp
theorem glueL_app (tk : List TokV) (k : Nat) : ∀ d, ∃ R, glueL tk (k + d) = glueL tk k ++ R := by
  intro d
  induction d with
  | zero => exact ⟨[], by simp⟩
  | succ d ih =>
    obtain ⟨R, hR⟩ := ih
    exact ⟨R ++ glueB tk (k + d), by rw [← Nat.add_assoc, glueL, hR, List.append_assoc]⟩
theorem bn_arr (L : List UInt8) (j : Nat) (h : j < L.length) : bn ⟨L.toArray⟩ j = (L[j]).toNat := by
  have hz : j < (⟨L.toArray⟩ : ByteArray).size := by show j < L.toArray.size; simpa using h
  rw [← bn_eq _ j hz]
  rfl
theorem bn_data (t : ByteArray) (j : Nat) (h : j < t.data.toList.length) : bn t j = (t.data.toList[j]).toNat := by
  have hz : j < t.size := by have : t.data.toList.length = t.size := rfl; omega
  rw [← bn_eq _ j hz]
  rfl
/-- the glued text, from the place of token k on -/
theorem glue_cut (sg : List ByteArray) (tk : List TokV) (hs : signsOk sg = true) (hf : ∀ t ∈ tk, TokFrom sg t) : ∀ (m k : Nat), k + m = tk.length →
    ∃ l : List Tk, toksAt ⟨(glueL tk tk.length).toArray⟩ sg (glueL tk k).length = (some l, 0, 0) ∧ l.map (fun x => (x.1, (⟨(glueL tk tk.length).toArray⟩ : ByteArray).extract x.2.1 x.2.2)) = (tk.drop k).map (fun t => (t.1, t.2.2)) := by
  intro m
  have hat : ∀ k (h : k < tk.length), tokAt tk k = tk[k] := fun k h => by unfold tokAt; rw [List.getElem?_eq_getElem h]; rfl
  induction m with
  | zero =>
    intro k hk
    obtain rfl : k = tk.length := by omega
    have hz : (⟨(glueL tk tk.length).toArray⟩ : ByteArray).size = (glueL tk tk.length).length := by show (glueL tk tk.length).toArray.size = _; simp
    exact ⟨[], toksAt_ge _ sg _ (by omega), by rw [List.drop_of_length_le (Nat.le_refl _)]; rfl⟩
  | succ m ih =>
    intro k hk
    have hkl : k < tk.length := by omega
    obtain ⟨l, hl1, hl2⟩ := ih (k + 1) (by omega)
    obtain ⟨R, hR⟩ := glueL_app tk (k + 1) m
    rw [show k + 1 + m = tk.length by omega] at hR
    have hfk := hf _ (List.getElem_mem hkl)
    rw [← hat k hkl] at hfk
    obtain ⟨G, hG⟩ : ∃ G : ByteArray, G = ⟨(glueL tk tk.length).toArray⟩ := ⟨_, rfl⟩
    have hGz : G.size = (glueL tk tk.length).length := by rw [hG]; show (glueL tk tk.length).toArray.size = _; simp
    have hGb : ∀ j (h : j < (glueL tk tk.length).length), bn G j = ((glueL tk tk.length)[j]).toNat := fun j h => by rw [hG]; exact bn_arr _ j h
    rw [← hG] at hl1 hl2 ⊢
    obtain ⟨P, hP⟩ : ∃ P, P = (glueL tk k).length := ⟨_, rfl⟩
    obtain ⟨e, he⟩ : ∃ e : List UInt8, e = if sepB tk k = true then [32] else [] := ⟨_, rfl⟩
    have hdl : (tokAt tk k).2.2.data.toList.length = (tokAt tk k).2.2.size := rfl
    have hL1 : glueL tk (k + 1) = glueL tk k ++ (e ++ (tokAt tk k).2.2.data.toList) := by rw [glueL, glueB, he]
    have hLen1 : (glueL tk (k + 1)).length = P + e.length + (tokAt tk k).2.2.size := by rw [hL1, List.length_append, List.length_append, hdl, hP]; omega
    have hLen : (glueL tk tk.length).length = P + e.length + (tokAt tk k).2.2.size + R.length := by rw [hR, List.length_append, hLen1]
    have hget : ∀ j : Nat, (glueL tk tk.length)[j]? = (glueL tk k ++ (e ++ ((tokAt tk k).2.2.data.toList ++ R)))[j]? := fun j => by rw [hR, hL1]; simp only [List.append_assoc]
    have hbytes : ∀ j, j < (tokAt tk k).2.2.size → bn G (P + e.length + j) = bn (tokAt tk k).2.2 j := fun j hj => by
      have h1 : P + e.length + j < (glueL tk tk.length).length := by omega
      rw [hGb _ h1, bn_data _ j (by rw [hdl]; exact hj)]
      congr 1
      have h2 := hget (P + e.length + j)
      rw [List.getElem?_append_right (by omega), List.getElem?_append_right (by omega), List.getElem?_append_left (by rw [hdl]; omega), List.getElem?_eq_getElem h1, List.getElem?_eq_getElem (by rw [hdl]; omega)] at h2
      injection h2 with h2
      rw [h2]
      congr 1
      omega
    have hhalt : (tokAt tk k).1 = 6 ∨ Halt G (P + e.length + (tokAt tk k).2.2.size) := by
      rcases Nat.lt_or_ge (k + 1) tk.length with h1 | h1
      · by_cases h6 : (tokAt tk k).1 = 6
        · exact .inl h6
        refine .inr (.inr ?_)
        have hf1 := hf _ (List.getElem_mem h1)
        rw [← hat _ h1] at hf1
        have hz1 := from_size hf1
        obtain ⟨R2, hR2⟩ := glueL_app tk (k + 1 + 1) (m - 1)
        rw [show k + 1 + 1 + (m - 1) = tk.length by omega, glueL] at hR2
        have hRR : R = glueB tk (k + 1) ++ R2 := by
          rw [hR, List.append_assoc] at hR2
          exact List.append_cancel_left hR2
        have hdl1 : (tokAt tk (k + 1)).2.2.data.toList.length = (tokAt tk (k + 1)).2.2.size := rfl
        have hB0 : ∃ b, (glueB tk (k + 1))[0]? = some b ∧ (b.toNat = 32 ∨ b.toNat = 10) := by
          unfold glueB
          by_cases hsp : sepB tk (k + 1) = true
          · rw [if_pos hsp]
            exact ⟨32, rfl, .inl rfl⟩
          · rw [if_neg hsp, List.nil_append]
            have h6' : (tokAt tk (k + 1)).1 = 6 := by
              rw [Bool.not_eq_true] at hsp
              unfold sepB at hsp
              rw [Nat.add_sub_cancel, decide_eq_true (show 0 < k + 1 by omega), decide_eq_true h6, Bool.true_and, Bool.and_true] at hsp
              exact Decidable.not_not.1 (of_decide_eq_false hsp)
            have h10 := from_six hf1 h6'
            rw [bn_data _ 0 (by omega)] at h10
            exact ⟨_, List.getElem?_eq_getElem (by omega), .inr h10⟩
        obtain ⟨b, hb0, hb1⟩ := hB0
        have hRl : 0 < R.length := by
          rw [hRR, List.length_append]
          have := (List.getElem?_eq_some_iff.1 hb0).1
          omega
        have h2 : P + e.length + (tokAt tk k).2.2.size < (glueL tk tk.length).length := by omega
        refine ⟨by omega, ?_⟩
        rw [hGb _ h2]
        have h3 := hget (P + e.length + (tokAt tk k).2.2.size)
        rw [List.getElem?_append_right (by omega), List.getElem?_append_right (by omega), List.getElem?_append_right (by rw [hdl]; omega), List.getElem?_eq_getElem h2, hRR, hdl, show P + e.length + (tokAt tk k).2.2.size - (glueL tk k).length - e.length - (tokAt tk k).2.2.size = 0 by omega, List.getElem?_append_left (List.getElem?_eq_some_iff.1 hb0).1, hb0] at h3
        injection h3 with h3
        rw [h3]
        exact hb1
      · have hm : m = 0 := by omega
        have : R = [] := by
          have h9 : (glueL tk tk.length).length = (glueL tk (k + 1)).length := by rw [show tk.length = k + 1 by omega]
          exact List.eq_nil_of_length_eq_zero (by omega)
        rw [this] at hLen
        exact .inr (.inl (by rw [hGz, hLen]; rfl))
    obtain ⟨c1, c2⟩ := from_cut hfk hs G (P + e.length) (by omega) hbytes hhalt
    have hstart : toksAt G sg P = toksAt G sg (P + e.length) := by
      by_cases hsp : sepB tk k = true
      · rw [if_pos hsp] at he
        subst he
        have hz := from_size hfk
        simp only [List.length_cons, List.length_nil] at hLen ⊢
        have h2 : P < (glueL tk tk.length).length := by omega
        refine toksAt_blank G sg P (by omega) (.inr (.inr ?_))
        rw [hGb _ h2]
        have h3 := hget P
        rw [List.getElem?_append_right (by omega), List.getElem?_eq_getElem h2, show P - (glueL tk k).length = 0 by omega] at h3
        injection h3 with h3
        rw [h3]
        rfl
      · rw [if_neg hsp] at he
        subst he
        rfl
    rw [hLen1] at hl1
    rw [← hP, hstart, c1, hl1]
    refine ⟨[((tokAt tk k).1, P + e.length, P + e.length + (tokAt tk k).2.2.size)] ++ l, rfl, ?_⟩
    rw [List.map_append, hl2, List.drop_eq_getElem_cons hkl, List.map_cons, ← hat k hkl]
    simp only [List.map_cons, List.map_nil, c2]
    rfl
theorem glue_toks (sg : List ByteArray) (tk : List TokV) (hs : signsOk sg = true) (hf : ∀ t ∈ tk, TokFrom sg t) (hz : (glueL tk tk.length).length ≤ 524288) :
    ∃ l : List Tk, toksN ⟨(glueL tk tk.length).toArray⟩ sg = (some l, 0, 0) ∧ l.map (fun x => (x.1, (⟨(glueL tk tk.length).toArray⟩ : ByteArray).extract x.2.1 x.2.2)) = tk.map (fun t => (t.1, t.2.2)) := by
  obtain ⟨l, h1, h2⟩ := glue_cut sg tk hs hf tk.length 0 (by omega)
  refine ⟨l, ?_, by rw [h2, List.drop_zero]⟩
  have hG : (⟨(glueL tk tk.length).toArray⟩ : ByteArray).size = (glueL tk tk.length).length := by show (glueL tk tk.length).toArray.size = _; simp
  unfold toksN
  rw [if_neg (by rw [hs]; decide), if_neg (by omega)]
  exact h1
end Go.Proofs.YtmbofpeedjlfhaaDoor
/-
  Glued tokens: the length; the walk of alike.
-/
namespace Go.Proofs.YtmbofpeedjlfhaaDoor
open Go.RowKit Go.PlainAid Go.BigFrame
set_option linter.unusedVariables false
set_option linter.unusedSimpArgs false
set_option maxRecDepth 100000

/-- the lengths of the texts, one more for each -/
def sumT : List TokV → Nat
  | [] => 0
  | t :: l => t.2.2.size + 1 + sumT l
theorem sumT_app (a b : List TokV) : sumT (a ++ b) = sumT a + sumT b := by
  induction a with
  | nil => simp [sumT]
  | cons x a ih => rw [List.cons_append, sumT, sumT, ih]; omega
theorem sumT_take (tk : List TokV) (k : Nat) (h : k < tk.length) : sumT (tk.take (k + 1)) = sumT (tk.take k) + ((tokAt tk k).2.2.size + 1) := by
  have h1 : tk[k]? = some (tokAt tk k) := by unfold tokAt; rw [List.getElem?_eq_getElem h]; rfl
  rw [List.take_add_one, h1, sumT_app]
  simp [sumT]
theorem glueL_sum (tk : List TokV) : ∀ k, k ≤ tk.length → (glueL tk k).length ≤ sumT (tk.take k) := by
  intro k
  induction k with
  | zero => intro _; simp [glueL]
  | succ k ih =>
    intro h
    have h1 := ih (by omega)
    have h2 := glueB_len tk k _ (Nat.le_refl _)
    rw [glueL, List.length_append, sumT_take tk k (by omega)]
    omega
theorem sumT_le (m : Nat) : ∀ (l : List TokV), (∀ t ∈ l, t.2.2.size ≤ m) → sumT l ≤ l.length * (m + 1) := by
  intro l
  induction l with
  | nil => intro _; simp [sumT]
  | cons x a ih =>
    intro h
    have h1 := ih (fun t ht => h t (List.mem_cons_of_mem _ ht))
    have h2 := h x (List.mem_cons_self ..)
    rw [sumT, List.length_cons, Nat.add_mul, Nat.one_mul]
    omega
set_option maxHeartbeats 2000000 in
theorem alike_any (A A' : Option Addr) (n c c' B : Nat) (tk tl : List TokV) (w : World) (hn : n ≤ 140737488351232) (ha : Reads w B 3 A n (tCells tk)) (hb : Reads w B 3 A' n (tCells tl)) (hB : B ≤ w.heap.size)
    (hE : ∀ k, k < n → (tokAt tk k).1 = (tokAt tl k).1 ∧ (tokAt tk k).2.2 = (tokAt tl k).2.2) :
    Calls Tryd.prog 21 #[.slice A n c, .slice A' n c'] w fun e w' => e = .returned (.bool true) ∧ Drew w w' := by
  have h0 : ((n : Int) != (n : Int)) = false := by simp
  have HA := hide_ ha
  have HR := hide_ hb
  have HE := hide_ hE
  have HBB := hide_ hB
  clear ha hb hB hE
  go_enter Tryd.func21, Tryd.ntmps21
  go_wp2
  go_loopw [5] (fun i wr => ∃ k : Nat, k ≤ n ∧ i = .int .i64 k ∧ Drew w wr) (fun i _ => n - (intOf i).toNat)
  case atStart => exact ⟨0, Nat.zero_le _, rfl, Drew.refl w⟩
  case round =>
    obtain ⟨k, hk, rfl, hd⟩ := hrel
    have HD := hide_ hd
    by_cases hlt : k < n
    · obtain ⟨ad, rfl, hbk, q0, q1, q2⟩ := tok_cells HA.out k hlt
      obtain ⟨ad', rfl, hbk', r0, r1, r2⟩ := tok_cells HR.out k hlt
      obtain ⟨g1, g2⟩ := HE.out k hlt
      rw [g1] at q0
      rw [g2] at q2
      clear g1 g2
      obtain ⟨K, hK⟩ : ∃ K, K = (tokAt tl k).1 := ⟨_, rfl⟩
      obtain ⟨S, hS⟩ : ∃ S, S = (tokAt tl k).2.2 := ⟨_, rfl⟩
      rw [← hK] at q0 r0
      rw [← hS] at q2 r2
      have x0 := (hd.cell _).trans q0
      have x2 := (hd.cell _).trans q2
      have y0 := (hd.cell _).trans r0
      have y2 := (hd.cell _).trans r2
      have hb1 : (ad.add (k * 3)).block < wr.heap.size := by rw [hd.size]; have := HBB.out; omega
      have hb2 : (ad'.add (k * 3)).block < wr.heap.size := by rw [hd.size]; have := HBB.out; omega
      have hKK : (K != K) = false := by simp
      clear hK hS q0 q1 q2 r0 r1 r2 hd hbk hbk'
      go_upto_region 6 with (fail)
      go_big_quiet (fail)
      go_wp2
      go_roundw
      case rel => exact ⟨k + 1, by omega, by go_num, HD.out.more _⟩
      case measure => simp [intOf]; omega
    · obtain rfl : k = n := by omega
      clear hd
      go_wp2
      go_ret
      exact ⟨rfl, HD.out⟩
end Go.Proofs.YtmbofpeedjlfhaaDoor
/-
  The walk of the statement TextGlued.
-/
namespace Go.Proofs.YtmbofpeedjlfhaaDoor
open Go.RowKit Go.PlainAid Go.BigFrame
set_option linter.unusedVariables false
set_option linter.unusedSimpArgs false
set_option maxRecDepth 100000

def tvG (s : ByteArray) (l : List Tk) : List TokV := l.map fun t => (t.1, ((t.2.1 : Nat) : Int), s.extract t.2.1 t.2.2)
theorem stand_lenG (s : ByteArray) : ∀ (l : List Tk) (i : Nat), Stand s i l → i + l.length ≤ s.size := by
  intro l
  induction l with
  | nil => intro i h; have := h.1; simp; omega
  | cons a l ih =>
    intro i h
    obtain ⟨h1, h2, h3, _, h5⟩ := h
    have := ih _ h5
    simp only [List.length_cons]
    omega
theorem toksN_ok (s : ByteArray) (sg : List ByteArray) (o : Option (List Tk)) (p : Int) (h : toksN s sg = (o, p, 0)) : signsOk sg = true ∧ (∀ x ∈ tvG s (o.getD []), TokFrom sg x ∧ x.2.2.size ≤ 524288) ∧ (o.getD []).length ≤ 524288 := by
  have h0 := h
  unfold toksN at h
  split at h
  · simp at h
  rename_i hs
  split at h
  · simp at h
  rename_i hz
  rcases toksN_or s sg with ⟨l, hl, hst, _⟩ | ⟨p2, e, hl, he, _⟩
  · rw [h0] at hl
    injection hl with hl1 hl2
    injection hl2 with hl2 _
    subst hl1 hl2
    have h9 := toks_from s sg s.size 0 (by omega) (Nat.zero_le _) l 0 h
    have h8 := stand_lenG s l 0 hst
    refine ⟨by simpa using hs, fun x hx => ?_, by simp only [Option.getD_some]; omega⟩
    unfold tvG at hx
    obtain ⟨t, ht, rfl⟩ := List.mem_map.1 hx
    refine ⟨h9 t ht, ?_⟩
    simp only [ByteArray.size_extract]
    omega
  · rw [h0] at hl
    injection hl with _ hl2
    injection hl2 with _ hl2
    exact absurd hl2.symm he
theorem glued_law (sg : List ByteArray) (tk : List TokV) (hs : signsOk sg = true) (hf : ∀ x ∈ tk, TokFrom sg x ∧ x.2.2.size ≤ 524288) :
    (glueN sg tk = (⟨#[]⟩, 15) ∧ 524288 < sumT tk) ∨ ∃ (G : ByteArray) (l : List Tk), glueN sg tk = (G, 0) ∧ G.size ≤ 524288 ∧ toksN G sg = (some l, 0, 0) ∧ l.length = tk.length ∧ ∀ k, k < tk.length → (tokAt (tvG G l) k).1 = (tokAt tk k).1 ∧ (tokAt (tvG G l) k).2.2 = (tokAt tk k).2.2 := by
  have hg : goodTo sg tk tk.length := fun j hj => by
    have hat : tokAt tk j = tk[j] := by unfold tokAt; rw [List.getElem?_eq_getElem hj]; rfl
    rw [hat]
    have := hf _ (List.getElem_mem hj)
    exact from_good this.1 hs this.2
  have h1 := glueN_good sg tk hs hg
  by_cases hz : 524288 < (glueL tk tk.length).length
  · rw [if_pos hz] at h1
    have h2 := glueL_sum tk tk.length (Nat.le_refl _)
    rw [List.take_length] at h2
    exact .inl ⟨h1, by omega⟩
  · rw [if_neg hz] at h1
    obtain ⟨l, h2, h3⟩ := glue_toks sg tk hs (fun t ht => (hf t ht).1) (by omega)
    have hl : l.length = tk.length := by simpa using congrArg List.length h3
    refine .inr ⟨_, l, h1, by show (glueL tk tk.length).toArray.size ≤ _; simp; omega, h2, hl, fun k hk => ?_⟩
    have hkl : k < l.length := by omega
    have h4 := congrArg (fun z => z[k]?) h3
    simp only [List.getElem?_map, List.getElem?_eq_getElem hk, List.getElem?_eq_getElem hkl, Option.map_some, Option.some.injEq, Prod.mk.injEq] at h4
    unfold tokAt tvG
    simp only [List.getElem?_map, List.getElem?_eq_getElem hk, List.getElem?_eq_getElem hkl, Option.map_some, Option.getD_some]
    exact h4
def rT (A : Option Addr) (n c : Nat) (l : List TokV) : Ro := ⟨36, 3, .slice A n c, n, tCells l⟩
theorem tCells_takeG (tk : List TokV) (m : Nat) (hm : m < tk.length) : tCells (tk.take (m + 1)) = tCells (tk.take m) ++ [.int .u8 (tokAt tk m).1, .int .i64 (tokAt tk m).2.1, .string (tokAt tk m).2.2] := by
  have h : tk[m]? = some (tokAt tk m) := by unfold tokAt; rw [List.getElem?_eq_getElem hm]; rfl
  rw [List.take_add_one, h, tCells_app]
  rfl
theorem rT_reads {W : World} {B i : Nat} {A : Option Addr} {n c : Nat} {l : List TokV} {rs : List Ro} (hO : Owns W B rs) (h : rs[i]? = some (rT A n c l)) : Reads W W.heap.size 3 A n (tCells l) := Reads.of_own (hO.at_ h)
set_option maxHeartbeats 8000000 in
theorem TextGlued_walk (s t : ByteArray) (As : Option Addr) (ns cs : Nat) (sg : List ByteArray) (w : World) (hz : s.size ≤ 1048576) (hz2 : t.size ≤ 1048576) (hnc : ns ≤ cs) (hns : ns ≤ 140737488351232) (hs : Reads w w.heap.size 1 As ns (strV sg)) :
    Calls Tryd.prog 6 #[.string s, .string t, .slice As ns cs] w fun e w' => e = .returned (.bool true) ∧ Below w.heap.size w w' := by
  obtain ⟨i0, hi0, hy0, hy1, hy2⟩ := info_parts token_info
  have HS := hide_ hs
  have HZ := hide_ hz
  have HZ2 := hide_ hz2
  have HNC := hide_ hnc
  have HNS := hide_ hns
  clear hs hz hz2
  go_enter Tryd.func6, Tryd.ntmps6
  go_wp2_with fail
  refine (awake_any w).mono ?_
  rintro e w1 ⟨rfl, hb⟩
  have HB1 := hide_ hb
  clear hb
  go_wp2_with fail
  have HT := tokens_any s As ns cs w.heap.size sg w1 (by have := HZ.out; omega) HNS.out HNC.out (HS.out.below HB1.out) HB1.out.size
  obtain ⟨o1, p1, e1, hx1⟩ : ∃ o p e, toksN s sg = (o, p, e) := ⟨_, _, _, rfl⟩
  rw [hx1] at HT
  unfold ToksIs at HT
  simp only at HT
  refine HT.mono ?_
  clear HT
  rintro e w2 ⟨v, rfl, hown, hb⟩
  obtain ⟨A1, c1, rfl, _, _⟩ := ownsRow_slice hown
  rw [tCells_tk] at hown
  obtain ⟨n1, hn1⟩ : ∃ n, n = (o1.getD []).length := ⟨_, rfl⟩
  obtain ⟨ta, hta⟩ : ∃ l, l = tvG s (o1.getD []) := ⟨_, rfl⟩
  have hla : ta.length = n1 := by rw [hta, hn1]; simp [tvG]
  rw [← hn1] at hown ⊢
  have HX1 := hide_ hx1
  have HN1 := hide_ hn1
  have HTA := hide_ hta
  have HLA := hide_ hla
  have HO2 : Hid (Owns w2 w.heap.size [rT A1 n1 c1 ta]) := hide_ (Owns.nil_.push hb (r := rT A1 n1 c1 ta) (by rw [hta]; exact hown) HB1.out.size)
  have HB2 := hide_ (HB1.out.trans (hb.mono HB1.out.size))
  clear hown hb HB1 hx1 hn1 hta hla
  go_wp2_with fail
  have HT := tokens_any t As ns cs w.heap.size sg w2 (by have := HZ2.out; omega) HNS.out HNC.out (HS.out.below HB2.out) HB2.out.size
  obtain ⟨o2, p2, e2, hx2⟩ : ∃ o p e, toksN t sg = (o, p, e) := ⟨_, _, _, rfl⟩
  rw [hx2] at HT
  unfold ToksIs at HT
  simp only at HT
  refine HT.mono ?_
  clear HT
  rintro e w3 ⟨v, rfl, hown, hb⟩
  obtain ⟨A2, c2, rfl, _, _⟩ := ownsRow_slice hown
  rw [tCells_tk] at hown
  obtain ⟨n2, hn2⟩ : ∃ n, n = (o2.getD []).length := ⟨_, rfl⟩
  obtain ⟨tb, htb⟩ : ∃ l, l = tvG t (o2.getD []) := ⟨_, rfl⟩
  have hlb : tb.length = n2 := by rw [htb, hn2]; simp [tvG]
  rw [← hn2] at hown ⊢
  have HX2 := hide_ hx2
  have HN2 := hide_ hn2
  have HTB := hide_ htb
  have HLB := hide_ hlb
  have HO3 : Hid (Owns w3 w.heap.size ([rT A1 n1 c1 ta, rT A2 n2 c2 tb] ++ [⟨36, 3, .slice none 0 0, 0, []⟩])) := hide_ (Owns.nilrow (HO2.out.push hb (r := rT A2 n2 c2 tb) (by rw [htb]; exact hown) HB2.out.size) 36 3)
  have HB3 := hide_ (HB2.out.trans (hb.mono HB2.out.size))
  clear hown hb HB2 HO2 hx2 hn2 htb hlb
  by_cases h1 : e1 = 0
  · by_cases h2 : e2 = 0
    · subst h1 h2
      obtain ⟨hsg, hfa, hna⟩ := toksN_ok s sg o1 p1 HX1.out
      obtain ⟨_, hfb, hnb⟩ := toksN_ok t sg o2 p2 HX2.out
      rw [← HTA.out] at hfa
      rw [← HTB.out] at hfb
      rw [← HN1.out] at hna
      rw [← HN2.out] at hnb
      have HSG := hide_ hsg
      have HFA := hide_ hfa
      have HFB := hide_ hfb
      have hma := sumT_le 524288 ta (fun x hx => (hfa x hx).2)
      have hmb := sumT_le 524288 tb (fun x hx => (hfb x hx).2)
      rw [HLA.out] at hma
      rw [HLB.out] at hmb
      have HMA := hide_ hma
      have HMB := hide_ hmb
      clear hfa hfb hma hmb hsg
      go_wp2_with fail
      go_loopw [13, 14, 15] (fun v m i wr => ∃ (k cq : Nat) (Aq : Option Addr), k ≤ n1 ∧ i = .int .i64 k ∧ v = .slice Aq k cq ∧ m = .int .i64 (sumT (ta.take k) : Nat) ∧ Hid (Owns wr w.heap.size [rT A1 n1 c1 ta, rT A2 n2 c2 tb, rT Aq k cq (ta.take k)]) ∧ Below w.heap.size w wr) (fun _ _ i _ => n1 - (intOf i).toNat)
      case atStart => exact ⟨0, 0, none, Nat.zero_le _, rfl, rfl, rfl, HO3, HB3.out⟩
      case round =>
        clear HO3 HB3
        obtain ⟨k, cq, Aq, hk, rfl, rfl, rfl, HO, hb⟩ := hrel
        have HB := hide_ hb
        clear hb
        by_cases hlt : k < n1
        · obtain ⟨ad, hA1, hbk, q0, q1, q2⟩ := tok_cells (rT_reads HO.out (i := 0) rfl) k hlt
          subst hA1
          have htl : k < ta.length := by rw [HLA.out]; exact hlt
          have hG := tCells_takeG ta k htl
          have hM' := sumT_take ta k htl
          have hSz : (tokAt ta k).2.2.size ≤ 524288 := by
            have e : tokAt ta k = ta[k] := by unfold tokAt; rw [List.getElem?_eq_getElem htl]; rfl
            rw [e]; exact (HFA.out _ (List.getElem_mem htl)).2
          have hMb : sumT (ta.take k) ≤ 524288 * 524289 := Nat.le_trans (sumT_le 524288 _ (fun x hx => (HFA.out x (List.mem_of_mem_take hx)).2)) (Nat.mul_le_mul_right _ (by rw [List.length_take]; omega))
          obtain ⟨K, hK⟩ : ∃ K, K = (tokAt ta k).1 := ⟨_, rfl⟩
          obtain ⟨a, ha⟩ : ∃ a, a = (tokAt ta k).2.1 := ⟨_, rfl⟩
          obtain ⟨S, hS⟩ : ∃ S, S = (tokAt ta k).2.2 := ⟨_, rfl⟩
          obtain ⟨M, hM⟩ : ∃ M, M = sumT (ta.take k) := ⟨_, rfl⟩
          rw [← hK, ← ha, ← hS] at hG
          rw [← hM, ← hS] at hM'
          rw [← hS] at hSz
          rw [← hM] at hMb ⊢
          rw [← hK] at q0
          rw [← ha] at q1
          rw [← hS] at q2
          have HG := hide_ hG
          have HM := hide_ hM'
          have HSE := hide_ hS
          clear hK ha hS hM hG hM' htl
          go_wp2_with (at_builtin; refine wpList_append_owns _ rfl (.tmp 50) (.tmp 55) 24 rfl w.heap.size _ 2 36 3 (.slice Aq k cq) k (tCells (ta.take k)) rfl (HO.out.alloc _) (by have := HB.out.size; rw [World.size_alloc]; omega) i0 _ 32 Tryd.underlying24 hi0 hy0 hy1 hy2 rfl (by omega) rfl _ _ 1 1 [.int .u8 K, .int .i64 a, .string S] rfl (reads_new wr 36 3 1 [.int .u8 K, .int .i64 a, .string S] rfl) (by simp [Value.oneCell']) (by simp only [maxLen]; omega) (by omega) ?_)
          intro v1 w4 hO1 hb1 hsz1
          obtain ⟨A4, c4, hv4, _, _⟩ := ownsRow_slice (hO1.at_ (i := 2) rfl)
          simp only at hv4
          subst hv4
          have HO4 := hide_ (show Owns w4 w.heap.size [rT (some ad) n1 c1 ta, rT A2 n2 c2 tb, rT A4 (k + 1) c4 (ta.take (k + 1))] by
            unfold rT at hO1 ⊢
            rw [HG.out]
            exact hO1)
          have HB4 := hide_ ((HB.out.alloc HB.out.size _).trans hb1)
          obtain ⟨ad2, hA2, hbk2, r0, r1, r2⟩ := tok_cells (rT_reads HO4.out (i := 0) rfl) k hlt
          obtain rfl : ad = ad2 := Option.some.inj hA2
          rw [← HSE.out] at r2
          clear hO1 hb1 hsz1 hA2 r0 r1 q0 q1 q2 HO HB
          go_wp2
          go_roundw
          case rel => exact ⟨k + 1, c4, A4, by omega, by go_num, rfl, by rw [HM.out]; go_num, HO4, HB4.out⟩
          case measure => simp [intOf]; omega
        · obtain rfl : k = n1 := by omega
          have HO5 : Hid (Owns wr w.heap.size [rT A1 k c1 ta, rT A2 n2 c2 tb, rT Aq (k + 0) cq (ta ++ tb.take 0)]) := hide_ (by
            have h9 := HO.out
            rw [List.take_of_length_le (by rw [HLA.out]; exact Nat.le_refl _)] at h9
            simpa using h9)
          have hM0 : sumT (ta.take k) = sumT ta + sumT (tb.take 0) := by
            rw [List.take_of_length_le (by rw [HLA.out]; exact Nat.le_refl _)]
            simp [sumT]
          rw [hM0]
          clear hM0 HO
          go_wp2_with fail
          go_loopw [13, 14, 16] (fun v m i wr => ∃ (j cq : Nat) (Aq : Option Addr), j ≤ n2 ∧ i = .int .i64 j ∧ v = .slice Aq (k + j) cq ∧ m = .int .i64 (sumT ta + sumT (tb.take j) : Nat) ∧ Hid (Owns wr w.heap.size [rT A1 k c1 ta, rT A2 n2 c2 tb, rT Aq (k + j) cq (ta ++ tb.take j)]) ∧ Below w.heap.size w wr) (fun _ _ i _ => n2 - (intOf i).toNat)
          case atStart => exact ⟨0, cq, Aq, Nat.zero_le _, rfl, rfl, rfl, HO5, HB.out⟩
          case round =>
            clear HO5 HB
            obtain ⟨j, cq, Aq, hj, rfl, rfl, rfl, HO, hb⟩ := hrel
            have HB := hide_ hb
            clear hb
            by_cases hlt2 : j < n2
            · obtain ⟨ad, hA1, hbk, q0, q1, q2⟩ := tok_cells (rT_reads HO.out (i := 1) rfl) j hlt2
              subst hA1
              have htl : j < tb.length := by rw [HLB.out]; exact hlt2
              have hG : tCells (ta ++ tb.take (j + 1)) = tCells (ta ++ tb.take j) ++ [.int .u8 (tokAt tb j).1, .int .i64 (tokAt tb j).2.1, .string (tokAt tb j).2.2] := by
                rw [tCells_app, tCells_takeG tb j htl, ← List.append_assoc, ← tCells_app]
              have hM' := sumT_take tb j htl
              have hSz : (tokAt tb j).2.2.size ≤ 524288 := by
                have e : tokAt tb j = tb[j] := by unfold tokAt; rw [List.getElem?_eq_getElem htl]; rfl
                rw [e]; exact (HFB.out _ (List.getElem_mem htl)).2
              have hMb : sumT (tb.take j) ≤ 524288 * 524289 := Nat.le_trans (sumT_le 524288 _ (fun x hx => (HFB.out x (List.mem_of_mem_take hx)).2)) (Nat.mul_le_mul_right _ (by rw [List.length_take]; omega))
              have hMa : sumT ta ≤ 524288 * 524289 := Nat.le_trans HMA.out (Nat.mul_le_mul_right _ hna)
              obtain ⟨K, hK⟩ : ∃ K, K = (tokAt tb j).1 := ⟨_, rfl⟩
              obtain ⟨a, ha⟩ : ∃ a, a = (tokAt tb j).2.1 := ⟨_, rfl⟩
              obtain ⟨S, hS⟩ : ∃ S, S = (tokAt tb j).2.2 := ⟨_, rfl⟩
              obtain ⟨M, hM⟩ : ∃ M, M = sumT ta + sumT (tb.take j) := ⟨_, rfl⟩
              have hM2 : sumT ta + sumT (tb.take (j + 1)) = M + (S.size + 1) := by rw [hM', hM, hS]; omega
              have hMc : M ≤ 2 * (524288 * 524289) := by omega
              rw [← hK, ← ha, ← hS] at hG
              rw [← hS] at hSz
              rw [← hM]
              rw [← hK] at q0
              rw [← ha] at q1
              rw [← hS] at q2
              have HG := hide_ hG
              have HM := hide_ hM2
              have HSE := hide_ hS
              clear hK ha hS hM hG hM' htl hM2 hMb hMa
              go_wp2_with (at_builtin; refine wpList_append_owns _ rfl (.tmp 72) (.tmp 77) 24 rfl w.heap.size _ 2 36 3 (.slice Aq (k + j) cq) (k + j) (tCells (ta ++ tb.take j)) rfl (HO.out.alloc _) (by have := HB.out.size; rw [World.size_alloc]; omega) i0 _ 32 Tryd.underlying24 hi0 hy0 hy1 hy2 rfl (by omega) rfl _ _ 1 1 [.int .u8 K, .int .i64 a, .string S] rfl (reads_new wr 36 3 1 [.int .u8 K, .int .i64 a, .string S] rfl) (by simp [Value.oneCell']) (by simp only [maxLen]; omega) (by omega) ?_)
              intro v1 w4 hO1 hb1 hsz1
              obtain ⟨A4, c4, hv4, _, _⟩ := ownsRow_slice (hO1.at_ (i := 2) rfl)
              simp only at hv4
              subst hv4
              have HO4 := hide_ (show Owns w4 w.heap.size [rT A1 k c1 ta, rT (some ad) n2 c2 tb, rT A4 (k + (j + 1)) c4 (ta ++ tb.take (j + 1))] by
                unfold rT at hO1 ⊢
                rw [HG.out]
                exact hO1)
              have HB4 := hide_ ((HB.out.alloc HB.out.size _).trans hb1)
              obtain ⟨ad2, hA2, hbk2, r0, r1, r2⟩ := tok_cells (rT_reads HO4.out (i := 1) rfl) j hlt2
              obtain rfl : ad = ad2 := Option.some.inj hA2
              rw [← HSE.out] at r2
              clear hO1 hb1 hsz1 hA2 r0 r1 q0 q1 q2 HO HB
              go_wp2
              go_roundw
              case rel => exact ⟨j + 1, c4, A4, by omega, by go_num, rfl, by rw [HM.out]; go_num, HO4, HB4.out⟩
              case measure => simp [intOf]; omega
            · obtain rfl : j = n2 := by omega
              have htb : tb.take j = tb := List.take_of_length_le (by rw [HLB.out]; exact Nat.le_refl _)
              rw [htb] at HO ⊢
              rw [← sumT_app]
              obtain ⟨tk, htk⟩ : ∃ tk, tk = ta ++ tb := ⟨_, rfl⟩
              have hsb : sumT tk ≤ 2 * (524288 * 524289) := by
                rw [htk, sumT_app]
                have := Nat.le_trans HMA.out (Nat.mul_le_mul_right 524289 hna)
                have := Nat.le_trans HMB.out (Nat.mul_le_mul_right 524289 hnb)
                omega
              have hft : ∀ x ∈ tk, TokFrom sg x ∧ x.2.2.size ≤ 524288 := fun x hx => by
                rw [htk] at hx
                rcases List.mem_append.1 hx with hx | hx
                · exact HFA.out x hx
                · exact HFB.out x hx
              have hlk : tk.length = k + j := by rw [htk, List.length_append, HLA.out, HLB.out]
              have hlaw := glued_law sg tk HSG.out hft
              rw [← htk] at HO ⊢
              have HTG := tglue_any Aq (k + j) cq As ns cs wr.heap.size tk sg wr (by omega) (fun q => by
                unfold tokAt
                cases hq : tk[q]? with
                | none => exact Nat.zero_le _
                | some x => have := (hft x (List.mem_of_getElem? hq)).2; simp only [Option.getD_some]; omega) HNS.out HNC.out (rT_reads HO.out (i := 2) rfl) ((HS.out.below HB.out).more HB.out.size) (Nat.le_refl _)
              obtain ⟨M, hM⟩ : ∃ M, M = sumT tk := ⟨_, rfl⟩
              rw [← hM] at hsb hlaw ⊢
              have HLK := hide_ hlk
              clear hM htk hft htb
              rcases hlaw with ⟨hg, hsum⟩ | ⟨G, l, hg, hGz, hGt, hll, hal⟩
              · rw [hg] at HTG
                simp only at HTG
                have HTG := hide_ HTG
                have z0 : decide ((524288 : Int) < (M : Int)) = true := decide_eq_true (by omega)
                clear hg
                go_wp2_with fail
                refine HTG.out.mono ?_
                rintro e w5 ⟨rfl, hb⟩
                have HB5 := hide_ (HB.out.trans (hb.mono HB.out.size))
                clear hb HTG
                go_wp2
                go_ret
                exact ⟨by simp, HB5.out⟩
              · rw [hg] at HTG
                simp only at HTG
                have HTG := hide_ HTG
                have HGT := hide_ hGt
                have HAL := hide_ hal
                have HLL := hide_ hll
                clear hg hGt hal hll
                go_wp2_with fail
                refine HTG.out.mono ?_
                rintro e w5 ⟨rfl, hb⟩
                have HO5 := hide_ (HO.out.below hb)
                have HB5 := hide_ (HB.out.trans (hb.mono HB.out.size))
                clear hb HTG HO HB
                go_wp2_with fail
                have HT := tokens_any G As ns cs w.heap.size sg w5 (by omega) HNS.out HNC.out (HS.out.below HB5.out) HB5.out.size
                rw [HGT.out] at HT
                unfold ToksIs at HT
                simp only [Option.getD_some] at HT
                refine HT.mono ?_
                clear HT
                rintro e w6 ⟨v, rfl, hown, hb⟩
                obtain ⟨A6, c6, rfl, _, _⟩ := ownsRow_slice hown
                rw [tCells_tk] at hown
                have hln : l.length = k + j := by rw [HLL.out, HLK.out]
                rw [hln] at hown ⊢
                have HB6 := hide_ (HB5.out.trans (hb.mono HB5.out.size))
                have HAK := hide_ (alike_any A6 Aq (k + j) c6 cq w6.heap.size (tvG G l) tk w6 (by omega) ((Reads.of_own hown)) ((rT_reads (HO5.out.below hb) (i := 2) rfl)) (Nat.le_refl _) (fun q hq => HAL.out q (by rw [HLK.out]; exact hq)))
                clear hown hb hln HO5 HB5
                go_wp2_with fail
                refine HAK.out.mono ?_
                rintro e w7 ⟨rfl, hd⟩
                have HB7 := hide_ (HB6.out.trans (hd.below _))
                clear hd HAK
                go_wp2
                go_ret
                exact ⟨by simp, HB7.out⟩
    · have d1 : (e2 != 0) = true := bne_iff_ne.2 h2
      subst h1
      clear h2
      go_wp2
      go_ret
      exact ⟨rfl, HB3.out⟩
  · have d1 : (e1 != 0) = true := bne_iff_ne.2 h1
    clear h1
    go_wp2
    go_ret
    exact ⟨rfl, HB3.out⟩
theorem TextGlued_raw {H : Type} {enc : TypeId × Value → H} {base : Nat} (s t : ByteArray) (v : Value) (w : World) (hz : s.size ≤ 1048576) (hz2 : t.size ≤ 1048576) (hv : Value.okWide Tryd.prog w .any base 22 v) (h : Seen enc Tryd.prog w true 22 v.cells.toList) (_ : SeenB enc Tryd.prog w true 22 v.cells.toList 1048576) :
    Calls Tryd.prog 6 #[.string s, .string t, v] w fun e w' => e = .returned (.bool true) ∧ Below w.heap.size w w' := by
  obtain ⟨As, ns, cs, xs, rfl, h1, h2, h3, h4⟩ := strs_arg hv h
  exact TextGlued_walk s t As ns cs xs w hz hz2 h1 (by omega) h3
end Go.Proofs.YtmbofpeedjlfhaaDoor
