/-
  The kit's OverReply: what was lent of a reply, written over.
-/
import Derived.Test.YtcfpclhoockcfaaM27
import Derived.Test.YtcfpclhoockcfaaM18
import Derived.Test.YtcfpclhoockcfaaM10
namespace Go.Proofs.Ytcfpclhoockcfaa
open Go.RowKit Go.PlainAid Go.BigFrame
set_option linter.unusedVariables false
set_option linter.unusedSimpArgs false
set_option maxRecDepth 100000
def ovR (vs : Nat → Value) (ns : Nat → Nat) (fs : Nat → List Int) (j : Nat) : Ro := ⟨5, 1, vs j, ns j, u8s (fs j)⟩
/-- the rows of a reply that was lent, whatever they hold -/
def repR (Af : Option Addr) (cf : Nat) (Aw : Option Addr) (cw n : Nat) (vs : Nat → Value) (ns : Nat → Nat) (xs : List Value) (fs : Nat → List Int) : List Ro :=
  ⟨23, 1, .slice Af n cf, n, (List.range n).map vs⟩ :: ⟨104, 2, .slice Aw (n + 4) cw, n + 4, xs⟩ :: (rowsF n (ovR vs ns fs) ++ [])
theorem repR_get {Af Aw : Option Addr} {cf cw n k : Nat} {vs : Nat → Value} {ns : Nat → Nat} {xs : List Value} {fs : Nat → List Int} (hk : k < n) : (repR Af cf Aw cw n vs ns xs fs)[k + 2]? = some (ovR vs ns fs k) := rowsF_get (ovR vs ns fs) [] hk
theorem repR_set {Af Aw : Option Addr} {cf cw n k : Nat} {vs : Nat → Value} {ns : Nat → Nat} {xs : List Value} {fs : Nat → List Int} (hk : k < n) (ys : List Int) :
    (repR Af cf Aw cw n vs ns xs fs).set (k + 2) ⟨5, 1, vs k, ns k, u8s ys⟩ = repR Af cf Aw cw n vs ns xs (fun j => if j = k then ys else fs j) := by
  have h := rowsF_set (ovR vs ns fs) [] ⟨5, 1, vs k, ns k, u8s ys⟩ hk
  unfold repR
  rw [List.set_cons_succ, List.set_cons_succ, h]
  congr 3
  refine rowsF_congr fun j _ => ?_
  unfold updR ovR
  by_cases e : j = k
  · subst e; simp
  · simp [e]
set_option maxHeartbeats 2000000 in
theorem OverReply_any (v : Int) (n : Nat) (vs : Nat → Value) (ns : Nat → Nat) (Af : Option Addr) (cf : Nat) (Aw : Option Addr) (cw B : Nat) (xs : List Value) (fs : Nat → List Int) (w : World)
    (hO : Owns w B (repR Af cf Aw cw n vs ns xs fs)) (hB : B ≤ w.heap.size) (hn : n ≤ 140737488351232) (hns : ∀ j, j < n → 0 < ns j ∧ ns j ≤ maxLen) :
    Calls Try.prog 42 #[.agg #[.int .u32 v, .slice Aw n cw, .slice Af n cf]] w fun e w' => e = .returned (.tuple #[]) ∧ Below B w w' := by
  obtain ⟨W1, hW1⟩ : ∃ W, W = w.alloc (.cells #[.int .u32 v, .slice Aw n cw, .slice Af n cf] 81) := ⟨_, rfl⟩
  have HO := hide_ (show Owns W1 B (repR Af cf Aw cw n vs ns xs fs ++ [⟨81, 1, .slice (some ⟨w.heap.size, 0, none⟩) 3 3, 3, [.int .u32 v, .slice Aw n cw, .slice Af n cf]⟩]) by
    rw [hW1]; exact hO.box 81 #[.int .u32 v, .slice Aw n cw, .slice Af n cf] hB (by simp [maxLen]))
  have HB := hide_ (show Below B w W1 by rw [hW1]; exact (Below.refl _ _).alloc hB _)
  have HBS := hide_ (show B ≤ W1.heap.size by rw [hW1]; simp; omega)
  have HXL := hide_ (show xs.length = (n + 4) * 2 from (hO.at_ (i := 1) rfl).1)
  have HNS := hide_ hns
  obtain ⟨b, hb⟩ : ∃ b, b = w.heap.size := ⟨_, rfl⟩
  rw [← hb] at HO
  clear hO hB hns
  go_enter Try.func42, Try.ntmps42
  go_upto_region 1 with (fail)
  rw [← hW1, ← hb]
  clear hW1 hb
  go_wp2
  go_loopw [2] (fun i wr => ∃ (k : Nat) (X : List Value) (f : Nat → List Int), k ≤ n ∧ i = .int .i64 k ∧ X.length = (n + 4) * 2 ∧ Hid (Owns wr B (repR Af cf Aw cw n vs ns X f ++ [⟨81, 1, .slice (some ⟨b, 0, none⟩) 3 3, 3, [.int .u32 v, .slice Aw n cw, .slice Af n cf]⟩])) ∧ Hid (Below B w wr) ∧ Hid (B ≤ wr.heap.size)) (fun i _ => n - (intOf i).toNat)
  case atStart => exact ⟨0, xs, fs, Nat.zero_le _, rfl, HXL.out, HO, HB, HBS⟩
  case round =>
    clear HO HB HBS HXL
    obtain ⟨k, X, f, hk, rfl, hX, HO, HB, HBS⟩ := hrel
    have hlb : (repR Af cf Aw cw n vs ns X f ++ [⟨81, 1, .slice (some ⟨b, 0, none⟩) 3 3, 3, [.int .u32 v, .slice Aw n cw, .slice Af n cf]⟩] : List Ro)[n + 2]? = some ⟨81, 1, .slice (some ⟨b, 0, none⟩) 3 3, 3, [.int .u32 v, .slice Aw n cw, .slice Af n cf]⟩ := by
      have hl : (repR Af cf Aw cw n vs ns X f).length = n + 2 := by simp [repR, rowsF_len]
      rw [List.getElem?_append_right (by omega), hl, Nat.sub_self]
      rfl
    have b1 := HO.out.cell hlb (j := 1) rfl
    have b2 := HO.out.cell hlb (j := 2) rfl
    have bz := (HO.out.base hlb).2
    by_cases hlt : k < n
    · obtain ⟨gF, cF, eF⟩ := ownsRow_some (HO.out.at_ (i := 0) rfl) (show 0 < n by omega)
      have eF' : Value.slice Af n cf = .slice (some ⟨gF, 0, none⟩) n cF := eF
      injection eF' with e1 e2 e3
      subst e1 e3
      clear e2 eF
      obtain ⟨gW, cW, eW⟩ := ownsRow_some (HO.out.at_ (i := 1) rfl) (show 0 < n + 4 by omega)
      have eW' : Value.slice Aw (n + 4) cw = .slice (some ⟨gW, 0, none⟩) (n + 4) cW := eW
      injection eW' with e1 e2 e3
      subst e1 e3
      clear e2 eW
      have hrk : (repR (some ⟨gF, 0, none⟩) cf (some ⟨gW, 0, none⟩) cw n vs ns X f ++ [⟨81, 1, .slice (some ⟨b, 0, none⟩) 3 3, 3, [.int .u32 v, .slice (some ⟨gW, 0, none⟩) n cw, .slice (some ⟨gF, 0, none⟩) n cf]⟩] : List Ro)[k + 2]? = some (ovR vs ns f k) := by
        rw [List.getElem?_append_left (by simp [repR, rowsF_len]; omega)]
        exact repR_get hlt
      obtain ⟨gk, ck, ek⟩ := ownsRow_some (HO.out.at_ hrk) (HNS.out k hlt).1
      have ek' : vs k = .slice (some ⟨gk, 0, none⟩) (ns k) ck := ek
      have cF : wr.cell? ⟨gF, k, none⟩ = some (.slice (some ⟨gk, 0, none⟩) (ns k) ck) := by
        rw [← ek']
        exact HO.out.cell (i := 0) (j := k) rfl (by rw [List.getElem?_map, List.getElem?_range hlt]; rfl)
      have zF := (HO.out.base (i := 0) rfl).2
      have HOK := hide_ (show wr.ownsRow B 5 1 (.slice (some ⟨gk, 0, none⟩) (ns k) ck) (ns k) (u8s (f k)) by have h := HO.out.at_ hrk; rw [← ek']; exact h)
      have HOV := hide_ (OverBytes_any gk (ns k) ck (f k) B wr HOK.out (HNS.out k hlt).2)
      have HTN := hide_ (fun (w2 : World) (hown : w2.ownsRow B 5 1 (.slice (some ⟨gk, 0, none⟩) (ns k) ck) (ns k) (u8s (marks8 (-1) 0 (ns k)))) (hg : wr.grownBy w2 (some gk)) => show Owns w2 B (repR (some ⟨gF, 0, none⟩) cf (some ⟨gW, 0, none⟩) cw n vs ns X (fun j => if j = k then marks8 (-1) 0 (ns k) else f j) ++ [⟨81, 1, .slice (some ⟨b, 0, none⟩) 3 3, 3, [.int .u32 v, .slice (some ⟨gW, 0, none⟩) n cw, .slice (some ⟨gF, 0, none⟩) n cf]⟩] : List Ro) from by
        have h1 := HO.out.turn (r' := ⟨5, 1, vs k, ns k, u8s (marks8 (-1) 0 (ns k))⟩) hrk (by show wr.grownBy w2 (vs k).ownBlock; rw [ek']; exact hg) (by show w2.ownsRow B 5 1 (vs k) (ns k) _; rw [ek']; exact hown) (.inl rfl)
        rw [List.set_append_left _ _ (by simp [repR, rowsF_len]; omega), repR_set hlt] at h1
        exact h1)
      have HGB := hide_ (fun j (hj : (some gk : Option Nat) = some j) => show B ≤ j from by
        injection hj with hj
        subst hj
        rcases HOK.out.2 with ⟨h2, _⟩ | ⟨g', cap, cur, hv, hg0, _⟩
        · cases h2
        · injection hv with hv _ _
          injection hv with hv
          injection hv with hv
          omega)
      have HX := hide_ hX
      clear hrk ek ek' hlb hX
      go_wp2_with fail
      refine HOV.out.mono ?_
      rintro e w2 ⟨rfl, hown, hg, _⟩
      have HO2 := hide_ (HTN.out w2 hown hg)
      have HB2 := hide_ (HB.out.trans ((Below.refl B wr).grown hg HBS.out HGB.out))
      have HBS2 := hide_ (Nat.le_trans HBS.out hg.size)
      clear hown hg cF b1 b2 bz zF HO HB HBS HOV HTN HOK HGB
      have hlb : (repR (some ⟨gF, 0, none⟩) cf (some ⟨gW, 0, none⟩) cw n vs ns X (fun j => if j = k then marks8 (-1) 0 (ns k) else f j) ++ [⟨81, 1, .slice (some ⟨b, 0, none⟩) 3 3, 3, [.int .u32 v, .slice (some ⟨gW, 0, none⟩) n cw, .slice (some ⟨gF, 0, none⟩) n cf]⟩] : List Ro)[n + 2]? = some ⟨81, 1, .slice (some ⟨b, 0, none⟩) 3 3, 3, [.int .u32 v, .slice (some ⟨gW, 0, none⟩) n cw, .slice (some ⟨gF, 0, none⟩) n cf]⟩ := by
        have hl : (repR (some ⟨gF, 0, none⟩) cf (some ⟨gW, 0, none⟩) cw n vs ns X (fun j => if j = k then marks8 (-1) 0 (ns k) else f j)).length = n + 2 := by simp [repR, rowsF_len]
        rw [List.getElem?_append_right (by omega), hl, Nat.sub_self]
        rfl
      have b1 := HO2.out.cell hlb (j := 1) rfl
      have bz := (HO2.out.base hlb).2
      obtain ⟨u0, hu0⟩ : ∃ u, X[k * 2]? = some u := ⟨_, List.getElem?_eq_getElem (by rw [HX.out]; omega)⟩
      obtain ⟨u1, hu1⟩ : ∃ u, X[k * 2 + 1]? = some u := ⟨_, List.getElem?_eq_getElem (by rw [HX.out]; omega)⟩
      have x0 := HO2.out.cell (i := 1) (j := k * 2) rfl hu0
      have x1 := HO2.out.cell (i := 1) (j := k * 2 + 1) rfl hu1
      have f0 := HO2.out.frozen (i := 1) rfl (k * 2)
      have f1 := HO2.out.frozen (i := 1) rfl (k * 2 + 1)
      have zW := (HO2.out.base (i := 1) rfl).2
      have HGW := hide_ (HO2.out.base (i := 1) rfl).1
      have hkw : (k : Int) < (n : Int) := by omega
      have HO3 := hide_ (show Owns ((w2.setCell ⟨gW, k * 2, none⟩ (.int .u32 5)).setCell ⟨gW, k * 2 + 1, none⟩ (.slice none 0 0)) B (repR (some ⟨gF, 0, none⟩) cf (some ⟨gW, 0, none⟩) cw n vs ns ((X.set (k * 2) (.int .u32 5)).set (k * 2 + 1) (.slice none 0 0)) (fun j => if j = k then marks8 (-1) 0 (ns k) else f j) ++ [⟨81, 1, .slice (some ⟨b, 0, none⟩) 3 3, 3, [.int .u32 v, .slice (some ⟨gW, 0, none⟩) n cw, .slice (some ⟨gF, 0, none⟩) n cf]⟩] : List Ro) from by
        have h1 := HO2.out.store (i := 1) rfl (j := k * 2) (by rw [HX.out]; omega) (.int .u32 5)
        exact h1.store (i := 1) rfl (j := k * 2 + 1) (by rw [List.length_set, HX.out]; omega) (.slice none 0 0))
      have HB3 := hide_ ((HB2.out.setCell (p := ⟨gW, k * 2, none⟩) HGW.out (.int .u32 5)).setCell (p := ⟨gW, k * 2 + 1, none⟩) HGW.out (.slice none 0 0))
      have HBS3 := hide_ (show B ≤ ((w2.setCell ⟨gW, k * 2, none⟩ (.int .u32 5)).setCell ⟨gW, k * 2 + 1, none⟩ (.slice none 0 0)).heap.size by simpa using HBS2.out)
      have HXL := hide_ (show ((X.set (k * 2) (.int .u32 5)).set (k * 2 + 1) (.slice none 0 0)).length = (n + 4) * 2 by rw [List.length_set, List.length_set]; exact HX.out)
      clear hlb hu0 hu1 HO2 HB2 HBS2
      go_wp2
      go_roundw
      case rel => exact ⟨k + 1, _, _, by omega, by go_num, HXL.out, HO3, HB3, HBS3⟩
      case measure => simp [intOf]; omega
    · have hkn : k = n := by omega
      subst hkn
      go_wp2
      go_end0
      exact ⟨rfl, HB.out⟩
end Go.Proofs.Ytcfpclhoockcfaa
/-
  The world of GatePlays: its rows when the memory alone has changed, and when the document's bytes follow.
-/
namespace Go.Proofs.Ytcfpclhoockcfaa
open Go.RowKit Go.PlainAid Go.BigFrame
set_option linter.unusedVariables false
set_option linter.unusedSimpArgs false
set_option maxRecDepth 100000
section
variable {F : Nat → Prop} {W W' : World} {B q0 k : Nat} {st : GW} {ex : List Ro}
/-- the rows, the memory holding other bytes than the document's list -/
def rowsGx (q0 : Nat) (st : GW) (ys : List Int) (ex : List Ro) : List Ro := headG q0 st ++ (memRows st.g st.d 256 st.cM false st.lv [] ys ++ (st.told.map toldR ++ (st.words.map wordR ++ ex)))
theorem own_hi {w : World} {e : TypeId} {size g n c : Nat} {xs : List Value} (h : w.ownsRow 0 e size (.slice (some ⟨g, 0, none⟩) n c) n xs) (hB : B ≤ g) : w.ownsRow B e size (.slice (some ⟨g, 0, none⟩) n c) n xs := by
  refine ⟨h.1, ?_⟩
  rcases h.2 with ⟨h2, _⟩ | ⟨g', cap, cur, hv, _, rest⟩
  · cases h2
  · injection hv with h1 _ h3
    injection h1 with h1
    injection h1 with h1
    subst h1 h3
    exact .inr ⟨g, c, cur, rfl, hB, rest⟩
/-- the bytes' block alone has changed -/
theorem GInv.laid (h : GInv F W B q0 k st ex) {ys : List Int} (hl : Laid W W' st.g st.d 256 st.cM ys) : OwnsF F W W' B (rowsGx q0 st ys ex) := by
  have hb := (h.own.base (i := 7) (g := st.d) (n := 256) (c := st.cM) rfl).1
  exact h.own.turn (i := 7) (r' := ⟨5, 1, .slice (some ⟨st.d, 0, none⟩) 256 st.cM, 256, u8s ys⟩) rfl hl.2 (own_hi hl.1.own hb) (.inl rfl)
/-- the document's bytes follow: a new list stands in the world's cell -/
theorem follow_rows {W0 : World} {ys : List Int} {A : Option Addr} {c : Nat}
    (h : OwnsF F W0 W B ((rowsGx q0 st ys ex ++ ([⟨5, 1, .slice A 256 c, 256, u8s ys⟩] : List Ro)).set 0 ⟨37, 1, .slice (some ⟨q0, 0, none⟩) 6 6, 6, [st.gv, st.rv, .pointer (some ⟨st.g, 0, none⟩), .slice A 256 c, st.tv, st.wv]⟩)) :
    OwnsF F W0 W B (rowsG q0 { st with xs := ys, AD := A, cD := c } ex) := by
  have h1 : OwnsF F W0 W B (([⟨37, 1, .slice (some ⟨q0, 0, none⟩) 6 6, 6, [st.gv, st.rv, .pointer (some ⟨st.g, 0, none⟩), .slice A 256 c, st.tv, st.wv]⟩, ⟨25, 1, st.gv, st.gs.length, st.gs.map fun x => .pointer (some ⟨x.q, 0, none⟩)⟩,
     ⟨22, 1, st.rv, st.gs.length, st.gs.map fun x => .slice x.A x.l.length x.c⟩, ⟨22, 1, st.tv, st.told.length, st.told.map fun x => .slice x.A x.l.length x.c⟩, ⟨40, 1, st.wv, st.words.length, st.words.map fun x => .slice x.A x.xs.length x.c⟩,
     ⟨5, 1, .slice st.AD 256 st.cD, 256, u8s st.xs⟩] : List Ro) ++ (memRows st.g st.d 256 st.cM false st.lv [] ys ++ (st.told.map toldR ++ (st.words.map wordR ++ ex)) ++ ([⟨5, 1, .slice A 256 c, 256, u8s ys⟩] : List Ro))) := h
  refine h1.pick [⟨5, 1, .slice st.AD 256 st.cD, 256, u8s st.xs⟩] fun cnt one k1 k2 k3 => ?_
  unfold rowsG headG
  dsimp only
  simp only [k1, k2, k3]
  omega
/-- the state when both hold the new bytes -/
theorem GInv.follow (h : GInv F W B q0 k st ex) {W2 : World} {ys : List Int} {A : Option Addr} {c : Nat} (hO : OwnsF F W W2 B (rowsG q0 { st with xs := ys, AD := A, cD := c } ex)) (hz : W.heap.size ≤ W2.heap.size) (hl : ys.length = 256) (hok : bytesOk ys) :
    GInv F W2 B q0 (k + 1) { st with xs := ys, AD := A, cD := c } ex :=
  ⟨hO.rebase, Nat.le_trans h.base hz, fun y hy => (h.gok y hy).keep (fun k hk => (hO.old k hk).2) hz, h.pos, by have := h.gl; show st.gs.length ≤ k + 1 + 2; omega, by have := h.tl; show st.told.length ≤ k + 1; omega, by have := h.wl; show st.words.length ≤ k + 1; omega, hl, hok, h.tn, h.wn⟩
theorem GInv.step (h : GInv F W B q0 k st ex) : GInv F W B q0 (k + 1) st ex :=
  ⟨h.own, h.base, h.gok, h.pos, by have := h.gl; omega, by have := h.tl; omega, by have := h.wl; omega, h.len, h.ok, h.tn, h.wn⟩
end
end Go.Proofs.Ytcfpclhoockcfaa
/-
  The walk of the statement GateFits.
-/
namespace Go.Proofs.Ytcfpclhoockcfaa
open Go.RowKit

def wsL (ws : Nat → Wr) (vs : Nat → Value) (j : Nat) : Wr := match vs j with
  | .slice A _ c => ⟨(ws j).at_, A, (ws j).n, c⟩
  | _ => ws j
theorem wsL_n (ws : Nat → Wr) (vs : Nat → Value) (j : Nat) : (wsL ws vs j).n = (ws j).n := by unfold wsL; split <;> rfl
theorem fitsN_lent (n : Nat) (ws : Nat → Wr) (vs : Nat → Value) (k : Nat) : fitsN n (wsL ws vs) k = fitsN n ws k := by
  unfold fitsN
  simp only [wsL_n]
theorem lent_wreads {w : World} {B n cf cw : Nat} {Af Aw : Option Addr} {ws : Nat → Wr} {zs : Nat → List Int} {vs : Nat → Value} {ex : List Ro}
    (hO : Owns w B ([⟨23, 1, .slice Af n cf, n, (List.range n).map vs⟩, ⟨104, 2, .slice Aw (n + 4) cw, n + 4, wCells ws vs n ++ tails 4⟩] ++ rowsF n (lentRow ws zs vs) ++ ex)) : WReads w w.heap.size Aw n (wsL ws vs) := by
  intro hn
  obtain ⟨gw, cw', hw⟩ := ownsRow_some (hO.at_ (i := 1) rfl) (show 0 < n + 4 by omega)
  injection hw with hw1 hw2 hw3
  subst hw1
  refine ⟨_, rfl, (hO.base (i := 1) rfl).2, fun j hj => ?_⟩
  have e1 : (⟨gw, 0, none⟩ : Addr).add (j * 2) = ⟨gw, j * 2, none⟩ := by
    unfold Addr.add
    split
    · rename_i h0
      rw [h0]
    · simp
  obtain ⟨g1, g2⟩ := wCells_get ws vs (tails 4) hj
  have hrow : ([⟨23, 1, .slice Af n cf, n, (List.range n).map vs⟩, ⟨104, 2, .slice (some ⟨gw, 0, none⟩) (n + 4) cw, n + 4, wCells ws vs n ++ tails 4⟩] ++ rowsF n (lentRow ws zs vs) ++ ex)[2 + j]? = some (lentRow ws zs vs j) := by
    rw [List.getElem?_append_left (by simp [rowsF]; omega), List.getElem?_append_right (by simp), show 2 + j - _ = j from by simp]
    simp [rowsF, hj]
  obtain ⟨A5, c5, h5, _, _⟩ := ownsRow_slice (hO.at_ hrow)
  have h6 : vs j = .slice A5 ((ws j).n + 64) c5 := h5
  have h7 : wsL ws vs j = ⟨(ws j).at_, A5, (ws j).n, c5⟩ := by unfold wsL; rw [h6]
  rw [h6] at g2
  rw [e1, h7]
  exact ⟨hO.cell (i := 1) rfl g1, hO.cell (i := 1) rfl g2⟩

/-! ### what the argument reads as -/
theorem reply_cells : Try.prog.cellsOf 43 = 2 := by kernel_rfl
theorem write_cells : Try.prog.cellsOf 104 = 2 := by kernel_rfl
theorem u32_cells : Try.prog.cellsOf 39 = 1 := by kernel_rfl
theorem u8_cells : Try.prog.cellsOf 5 = 1 := by kernel_rfl
theorem u8s_cells : Try.prog.cellsOf 23 = 1 := by kernel_rfl
theorem writes_cells : Try.prog.cellsOf 41 = 1 := by kernel_rfl
theorem write_bytes : Try.prog.bytesOf 104 = 32 := by kernel_rfl
theorem u8_bytes : Try.prog.bytesOf 5 = 1 := by kernel_rfl
theorem seen_write {H : Type} {enc : TypeId × Value → H} {w : World} {held : Bool} {cs : List Value} (h : Seen enc Try.prog w held 104 cs) :
    ∃ (x : Wr) (zs : List Int), cs = [.int .u32 x.at_, .slice x.A x.n x.c] ∧ (Lit.int .u32 x.at_).wf = true ∧ Reads w w.heap.size 1 x.A x.n (u8s zs) ∧ x.n ≤ x.c ∧ x.c ≤ 140737488351232 ∧ ∀ z ∈ zs, (Lit.int .u8 z).wf = true := by
  obtain ⟨hl, hf⟩ := seen_struct Try.underlying104 h
  rw [write_cells] at hl
  obtain ⟨x, y, rfl⟩ := two_of_len hl
  have f0 : Seen enc Try.prog w held 39 (([x, y].drop 0).take (Try.prog.cellsOf 39)) := hf 0 _ rfl
  have f1 : Seen enc Try.prog w held 23 (([x, y].drop 1).take (Try.prog.cellsOf 23)) := hf 1 _ rfl
  rw [u32_cells] at f0
  rw [u8s_cells] at f1
  obtain ⟨a, h0, hw⟩ := seen_int Try.underlying39 f0
  obtain ⟨A, n, c, xs, h1, h2, _, h3, h4, h5⟩ := seen_ints Try.underlying23 Try.underlying5 u8_cells f1
  injection h0 with h0
  injection h1 with h1
  subst h0 h1
  rw [u8_bytes] at h3
  exact ⟨⟨a, A, n, c⟩, xs, rfl, hw, h4, h2, by unfold reachBytes at h3; show c ≤ _; omega, h5⟩
theorem seen_writes {H : Type} {enc : TypeId × Value → H} {w : World} {held : Bool} {cs : List Value} (h : Seen enc Try.prog w held 41 cs) :
    ∃ (A : Option Addr) (n c : Nat) (ws : Nat → Wr) (zs : Nat → List Int), cs = [.slice A n c] ∧ n ≤ c ∧ c * 32 ≤ 140737488351232 ∧ WReads w w.heap.size A n ws ∧
      ∀ j, j < n → (Lit.int .u32 (ws j).at_).wf = true ∧ Reads w w.heap.size 1 (ws j).A (ws j).n (u8s (zs j)) ∧ (ws j).n ≤ (ws j).c ∧ (ws j).c ≤ 140737488351232 ∧ ∀ z ∈ zs j, (Lit.int .u8 z).wf = true := by
  obtain ⟨A, n, c, rfl, h1, _, h3, h4⟩ := seen_slice Try.underlying41 (by rw [write_cells]; decide) h
  rw [write_bytes] at h3
  have h3' : c * 32 ≤ 140737488351232 := h3
  rcases Nat.eq_zero_or_pos n with rfl | hn
  · exact ⟨A, 0, c, fun _ => ⟨0, none, 0, 0⟩, fun _ => [], rfl, h1, h3', fun h => absurd h (by omega), fun j hj => absurd hj (by omega)⟩
  · obtain ⟨ad, rfl, hb, hi⟩ := h4 hn
    have hv : ∀ i, i < n → ∃ x : Wr × List Int, (w.cell? (ad.add (i * 2)) = some (.int .u32 x.1.at_) ∧ w.cell? ⟨(ad.add (i * 2)).block, (ad.add (i * 2)).off + 1, none⟩ = some (.slice x.1.A x.1.n x.1.c)) ∧
        (Lit.int .u32 x.1.at_).wf = true ∧ Reads w w.heap.size 1 x.1.A x.1.n (u8s x.2) ∧ x.1.n ≤ x.1.c ∧ x.1.c ≤ 140737488351232 ∧ ∀ z ∈ x.2, (Lit.int .u8 z).wf = true := by
      intro i hlt
      obtain ⟨vs, _, hcell, hs⟩ := hi i hlt
      obtain ⟨x, zs, rfl, g1, g2, g3, g4, g5⟩ := seen_write hs
      rw [write_cells] at hcell
      have c0 := hcell 0 (by omega)
      have c1 := hcell 1 (by omega)
      have e0 : (ad.add (i * 2)).add 0 = ad.add (i * 2) := by simp [Addr.add]
      have e1 : (ad.add (i * 2)).add 1 = ⟨(ad.add (i * 2)).block, (ad.add (i * 2)).off + 1, none⟩ := by unfold Addr.add; simp
      rw [e0] at c0
      rw [e1] at c1
      exact ⟨(x, zs), ⟨c0, c1⟩, g1, g2, g3, g4, g5⟩
    haveI : Inhabited (Wr × List Int) := ⟨(⟨0, none, 0, 0⟩, [])⟩
    obtain ⟨f, hf⟩ := skolem_lt hv
    exact ⟨some ad, n, c, fun j => (f j).1, fun j => (f j).2, rfl, h1, h3', fun _ => ⟨ad, rfl, hb, fun j hj => (hf j hj).1⟩, fun j hj => (hf j hj).2⟩
set_option maxRecDepth 100000 in
theorem seen_reply {H : Type} {enc : TypeId × Value → H} {base : Nat} {w : World} {held : Bool} {v : Value} (hv : Value.okWide Try.prog w .any base 43 v) (h : Seen enc Try.prog w held 43 v.cells.toList) :
    ∃ (a : Int) (A : Option Addr) (n c : Nat) (ws : Nat → Wr) (zs : Nat → List Int), v = .agg #[.int .u32 a, .slice A n c] ∧ (Lit.int .u32 a).wf = true ∧ n ≤ c ∧ c * 32 ≤ 140737488351232 ∧ WReads w w.heap.size A n ws ∧
      ∀ j, j < n → (Lit.int .u32 (ws j).at_).wf = true ∧ Reads w w.heap.size 1 (ws j).A (ws j).n (u8s (zs j)) ∧ (ws j).n ≤ (ws j).c ∧ (ws j).c ≤ 140737488351232 ∧ ∀ z ∈ zs j, (Lit.int .u8 z).wf = true := by
  obtain ⟨l, rfl⟩ := okWide_struct Try.underlying43 hv
  obtain ⟨hl, hf⟩ := seen_struct Try.underlying43 h
  rw [reply_cells] at hl
  obtain ⟨x, y, rfl⟩ := two_of_len (show l.length = 2 by simpa [Value.cells] using hl)
  have f0 : Seen enc Try.prog w held 39 (([x, y].drop 0).take (Try.prog.cellsOf 39)) := hf 0 _ rfl
  have f1 : Seen enc Try.prog w held 41 (([x, y].drop 1).take (Try.prog.cellsOf 41)) := hf 1 _ rfl
  rw [u32_cells] at f0
  rw [writes_cells] at f1
  obtain ⟨a, h0, hw⟩ := seen_int Try.underlying39 f0
  obtain ⟨A, n, c, ws, zs, h1, g1, g2, g3, g4⟩ := seen_writes f1
  injection h0 with h0
  injection h1 with h1
  subst h0 h1
  exact ⟨a, A, n, c, ws, zs, rfl, hw, g1, g2, g3, g4⟩
end Go.Proofs.Ytcfpclhoockcfaa
