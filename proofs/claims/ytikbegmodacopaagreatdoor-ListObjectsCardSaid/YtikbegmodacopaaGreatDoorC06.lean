/-
  Joined and packed by program.
-/
import Derived.OwnWalkIn
import Derived.Test.YtikbegmodacopaaGreatDoorC01
import Derived.Test.YtikbegmodacopaaGreatDoorC05
import Derived.WalkMore
import Derived.Deep.CutRange
import Derived.ChangeArms
import Derived.ChangeOld
import Derived.ProofKit
import Derived.SizedLaws
namespace Go.Proofs.YtikbegmodacopaaGreatDoor
set_option maxRecDepth 100000
open Go.RowKit
theorem reads_at (w:World) (t:TypeId) (size n:Nat) (us:List Value) (hl:us.length=n * size) (b:Nat) (hb:b=w.heap.size):Reads (w.alloc (.cells us.toArray t)) (w.heap.size+1) size (some ⟨b,0,none⟩) n us:=by
 subst hb
 exact reads_new w t size n us hl
end Go.Proofs.YtikbegmodacopaaGreatDoor
namespace Go.Proofs.YtikbegmodacopaaGreatDoor
open Go.RowKit Go.PlainAid Go.Shelf
abbrev BytesIs (x:Option (List Int) × Int × Int) (w:World) (e:Ending) (w':World):Prop :=
 ∃ v,e=.returned (.tuple #[v,.int .i64 x.2.1,.int .i64 x.2.2])∧w'.ownsRow w.heap.size 5 1 v (x.1.getD []).length (u8s (x.1.getD []))∧Below w.heap.size w w'
theorem one_row {w:World} {B:Nat} {r:Ro} (h:w.ownsRow B r.e r.size r.v r.n r.xs):Owns w B [r]:=⟨fun q hq=>by rw [List.mem_singleton.1 hq];exact h,List.pairwise_singleton _ _⟩
theorem tbytes_0 (w:World):Calls Tryz.prog 219 #[.string ⟨#[]⟩] w (BytesIs (none,0,11) w):=by
 go_enter Tryz.func219,Tryz.ntmps219
 go_wp2
 go_ret3
 exact ⟨_,rfl,World.ownsRow_nil _ _ _ _,Below.refl _ _⟩
set_option maxHeartbeats 1000000 in
theorem tbytes_1 (s:ByteArray) (w:World) (h0:0<s.size) (h1:bt s 0≠34):Calls Tryz.prog 219 #[.string s] w (BytesIs (none,0,11) w):=by
 have hbt:=get_bt s
 have hne:=not_empty s h0
 have h2:(bt s 0 != 34)=true:=bne_iff_ne.2 h1
 clear h1
 go_enter Tryz.func219,Tryz.ntmps219
 go_wp2
 go_ret3
 exact ⟨_,rfl,World.ownsRow_nil _ _ _ _,Below.refl _ _⟩
set_option maxRecDepth 100000 in
set_option maxHeartbeats 1000000 in
theorem tbytes_2 (s:ByteArray) (w:World) (hz:s.size≤140737488351232) (h0:0<s.size) (h1:bt s 0=34):Calls Tryz.prog 219 #[.string s] w (BytesIs (bytesAt s s.size 1) w):=by
 obtain ⟨i0,hi,hz0,hz1,hz2⟩:=info_parts bld_u8
 have hbt:=get_bt s
 have hne:=not_empty s h0
 obtain ⟨X,hX⟩:∃ X,X=bytesAt s s.size 1:=⟨_,rfl⟩
 rw [← hX]
 go_enter Tryz.func219,Tryz.ntmps219
 go_wp2
 go_loopw [5,6] (fun v i wr=>∃ (pos f:Nat) (acc:List Int),i=.int .i64 pos∧pos≤s.size+6∧s.size≤pos+f∧acc.length≤pos∧Hid (X=addTo acc (bytesAt s f pos)) ∧
   wr.ownsRow w.heap.size 5 1 v acc.length (u8s acc)∧Below w.heap.size w wr) (fun _ i _=>s.size+8 - (intOf i).toNat)
 case atStart =>
  exact ⟨1,s.size,[],rfl,by omega,by omega,by simp,hide_ (by rw [hX,addTo_nil]),World.ownsRow_nil _ _ _ _,Below.refl _ _⟩
 case round =>
  obtain ⟨pos,f,acc,rfl,hp6,hpf,hal,HX,hown,hb⟩:=hrel
  have hsz:=hb.size
  by_cases hlt:pos<s.size
  ·have hbe:=bt_eq s pos hlt
   obtain ⟨f,rfl⟩:∃ f',f=f' + 1:=⟨f - 1,by omega⟩
   by_cases h34:bn s pos=34
   ·have d1:(bt s pos == 34)=true:=by rw [beq_iff_eq];omega
    have hX2:=HX.out
    rw [bytesAt,if_neg (by omega),if_pos h34] at hX2
    clear hbe h34
    by_cases hend:pos+1<s.size
    ·rw [if_pos hend] at hX2
     have HX2:=hide_ hX2
     clear hX2 hX
     go_wp2
     go_ret3
     rw [HX2.out]
     exact ⟨_,rfl,World.ownsRow_nil _ _ _ _,hb⟩
    ·rw [if_neg hend] at hX2
     have HX2:=hide_ hX2
     clear hX2 hX
     go_wp2
     go_ret3
     rw [HX2.out]
     exact ⟨_,rfl,by simpa [addTo] using hown,hb⟩
   ·have d1:(bt s pos == 34)=false:=by rw [beq_eq_false_iff_ne];omega
    have hgood:=sayN_good s pos hlt
    have hstep:=bytesAt_step s f pos hlt h34
    have hX2:=HX.out
    rw [bytesAt,if_neg (by omega),if_neg h34] at hX2
    have hcall:=fun W=>say_any s pos W hlt
    have hZ:sayZ s pos=if (sayN s pos).2.1 then [(sayN s pos).1] else Lib.encodeRuneZ (sayN s pos).1:=rfl
    obtain ⟨⟨c,b,k,er⟩,hN⟩:∃ x,sayN s pos=x:=⟨_,rfl⟩
    simp only [hN] at hgood hstep hX2 hcall hZ
    clear hbe h34 hN
    by_cases he:er=0
    ·subst he
     obtain ⟨k1,k6,hzl,_,hby,hru⟩:=hgood rfl
     have HS:=hide_ (show X=addTo (acc ++ sayZ s pos) (bytesAt s f (pos+k)) by rw [HX.out];exact hstep rfl acc)
     have HCALL:=hide_ hcall
     clear hcall hgood hstep hX2 hX HX
     obtain ⟨A0,c0,rfl,hc0,hc1⟩:=ownsRow_slice hown
     cases b with
     | true =>
      obtain ⟨hc0',hc256⟩:=hby rfl
      have hZ1:sayZ s pos=[c]:=by rw [hZ];rfl
      have p1:c % 256=c:=by omega
      have HS2:=hide_ (show X=addTo (acc ++ [c]) (bytesAt s f (pos+k)) by rw [← hZ1];exact HS.out)
      clear HS hZ hZ1 hby hru hzl
      go_wp2_with (go_at_call 226;refine (HCALL.out _).mono ?_)
      rintro e w1 ⟨rfl,hb1⟩
      have hO1:Owns w1 w.heap.size [⟨5,1,.slice A0 acc.length c0,acc.length,u8s acc⟩]:=(one_row hown).below hb1
      have hO2:=hO1.box 260 #[.int .i32 c,.bool true,.int .i64 k] (by have:=hb1.size;omega) (show 3≤maxLen by unfold maxLen;decide)
      have hB1:Below w.heap.size w w1:=hb.trans (hb1.mono hsz)
      go_wp2_with (at_builtin;refine wpList_append_owns _ rfl (.tmp 44) (.tmp 48) 24 rfl w.heap.size _ 0 5 1 _ acc.length _ rfl (hO2.alloc _) (by have:=hb1.size;simp;omega) i0 _ 1 Tryz.underlying24 hi hz0 hz1 hz2 rfl (by omega) rfl _ _ 1 1 _ rfl (reads_at (w1.alloc (.cells #[.int .i32 c,.bool true,.int .i64 k] 260)) 5 1 1 [.int .u8 c] rfl (w1.heap.size+1) (by simp)) (by simp [Value.oneCell']) (by simp only [maxLen];omega) (by omega) ?_)
      intro v2 w2 hO3 hb2 hsz2
      have ck:w2.cell? ⟨w1.heap.size,2,none⟩=some (.int .i64 k):=hO3.cell (i:=1) rfl rfl
      go_wp2
      go_roundw
      case rel =>
       refine ⟨pos+k,f,acc ++ [c],by go_num,by omega,by omega,by simp;omega,HS2,?_,?_⟩
       ·simpa [u8s] using hO3.at_ (i:=0) rfl
       ·exact ((hB1.alloc hB1.size _).alloc (by simp;have:=hB1.size;omega) _).trans hb2
      case measure=>simp [intOf];omega
     | false =>
      obtain ⟨v,rfl,hvr⟩:=hru rfl
      have hZ1:sayZ s pos=Lib.encodeRuneZ (v:Int):=by rw [hZ];rfl
      have hv0:(v:Int)≤1114111:=by have:=hvr.1;omega
      have HS2:=hide_ (show X=addTo (acc ++ Lib.encodeRuneZ (v:Int)) (bytesAt s f (pos+k)) by rw [← hZ1];exact HS.out)
      rw [hZ1] at hzl
      clear HS hZ hZ1 hby hru
      go_wp2_with (go_at_call 226;refine (HCALL.out _).mono ?_)
      rintro e w1 ⟨rfl,hb1⟩
      have hO1:Owns w1 w.heap.size [⟨5,1,.slice A0 acc.length c0,acc.length,u8s acc⟩]:=(one_row hown).below hb1
      have hO2:=hO1.alloc (.cells #[.int .i32 v,.bool false,.int .i64 k] 260)
      have hB1:Below w.heap.size w w1:=hb.trans (hb1.mono hsz)
      have hBk:=Blk.new w1 260 #[.int .i32 v,.bool false,.int .i64 k]
      go_wp2_with (go_at_call 227;refine (Tryz.utf8_AppendRune_plain w.heap.size (.slice A0 acc.length c0) acc.length (u8s acc) (v:Int) (by omega) (by omega) _ (hO2.at_ (i:=0) rfl) (by omega) (by have:=hb1.size;simp;omega)).mono ?_)
      rintro e w2 ⟨v2,rfl,hown2,o,hg2⟩
      have hBk2:Blk w2 w1.heap.size 260 #[.int .i32 v,.bool false,.int .i64 k]:=(hBk.alloc o).grown hg2 (fun e=>own_blk_ne (hO2.at_ (i:=0) rfl) hBk (show (5:TypeId)≠260 by decide) e.symm)
      have ck:w2.cell? ⟨w1.heap.size,2,none⟩=some (.int .i64 k):=hBk2.cell 2
      have hb2:Below w.heap.size w w2:=((hB1.alloc hB1.size _).alloc (by simp;have:=hB1.size;omega) _).grown hg2 (by simp;have:=hB1.size;omega) (fun j hj=>((hO2.at_ (i:=0) rfl).lt j hj).1)
      go_wp2
      go_roundw
      case rel =>
       refine ⟨pos+k,f,acc ++ Lib.encodeRuneZ (v:Int),by go_num,by omega,by omega,by simp;omega,HS2,?_,hb2⟩
       simpa [u8s,Lib.runeCells] using hown2
      case measure=>simp [intOf];omega
    ·rw [if_pos he] at hX2
     have HX2:=hide_ hX2
     have HCALL:=hide_ hcall
     have d2:(er != 0)=true:=bne_iff_ne.2 he
     clear hcall hgood hstep hX2 hX he hZ
     go_wp2_with (go_at_call 226;refine (HCALL.out _).mono ?_)
     rintro e w1 ⟨rfl,hb1⟩
     go_wp2
     go_ret3
     rw [HX2.out]
     exact ⟨_,rfl,World.ownsRow_nil _ _ _ _,(hb.trans (hb1.mono hsz)).alloc (by have:=hb1.size;omega) _⟩
  ·have hX2:=HX.out
   rw [bytesAt_end s f pos (by omega)] at hX2
   have HX2:=hide_ hX2
   clear hX2 hX
   go_wp2
   go_ret3
   rw [HX2.out]
   exact ⟨_,rfl,World.ownsRow_nil _ _ _ _,hb⟩
theorem tbytes_any (s:ByteArray) (w:World) (hz:s.size≤140737488351232):Calls Tryz.prog 219 #[.string s] w (BytesIs (bytesN s) w):=by
 unfold bytesN
 by_cases h0:s.size=0
 ·obtain rfl:=is_empty s h0
  rw [if_pos h0]
  exact tbytes_0 w
 rw [if_neg h0]
 have hb:=bt_eq s 0 (by omega)
 by_cases h1:bn s 0≠34
 ·rw [if_pos h1]
  exact tbytes_1 s w (by omega) (by omega)
 ·rw [if_neg h1]
  exact tbytes_2 s w hz (by omega) (by omega)
end Go.Proofs.YtikbegmodacopaaGreatDoor
namespace Go.Proofs.YtikbegmodacopaaGreatDoor
open Go.RowKit Go.PlainAid
set_option linter.unusedVariables false
set_option maxRecDepth 100000
theorem bytesAt_bd (s:ByteArray):∀ (f i:Nat),0≤(bytesAt s f i).2.1∧(bytesAt s f i).2.1≤(s.size:Int):=by
 intro f
 induction f with
 | zero=>intro i;simp [bytesAt]
 | succ f ih =>
  intro i
  rw [bytesAt]
  split
  ·simp
  ·split
   ·split
    ·simp only;omega
    ·simp only;omega
   ·split
    ·simp only;omega
    ·exact ih _
theorem bytesN_bd (s:ByteArray):0≤(bytesN s).2.1∧(bytesN s).2.1≤(s.size:Int):=by
 unfold bytesN
 split
 ·simp
 ·split
  ·simp
  ·exact bytesAt_bd s _ _
theorem runeN_bd (s:ByteArray):0≤(runeN s).2.1∧(runeN s).2.1≤8:=by
 have hk:=sayN_k s 1
 unfold runeN
 repeat' split
 all_goals simp
 all_goals omega
set_option maxHeartbeats 1000000 in
theorem literal_any (s:ByteArray) (i:Nat) (w:World) (hz:s.size≤140737488351232) (hi:i<s.size) :
  Calls Tryz.prog 202 #[.string s,.int .i64 i] w fun e w'=>e=.returned (.tuple #[.int .i64 (litN s i).2.1,.int .i64 (litN s i).2.2])∧Below w.heap.size w w':=by
 have hbt:=get_bt s
 have hbi:=bt_eq s i hi
 have hq:=quoted_any s i w (by omega) hi
 cases hl:litE s i with
 | none =>
  have e1:(litN s i).2=((i:Int),(11:Int)):=by unfold litN;rw [hl]
  rw [e1]
  rw [hl] at hq
  have HQ:=hide_ hq
  simp only [Option.getD_none,Option.isSome_none] at HQ
  clear hq e1 hl
  go_enter Tryz.func202,Tryz.ntmps202
  go_wp2_with fail
  refine HQ.out.mono ?_
  rintro e w2 ⟨rfl,rfl⟩
  go_wp2
  go_ret2
  exact ⟨rfl,Below.refl _ _⟩
 | some e =>
  have hb:=litE_bd s i e hl
  obtain ⟨t,ht⟩:∃ t,t=s.extract i e:=⟨_,rfl⟩
  have hts:t.size=e - i:=by rw [ht,ByteArray.size_extract];omega
  rw [hl] at hq
  have HQ:=hide_ hq
  simp only [Option.getD_some,Option.isSome_some] at HQ
  clear hq
  have e0:(e:Int)=((e:Nat):Int):=rfl
  by_cases h34:bn s i=34
  ·have hby:=tbytes_any t w (by omega)
   have hpb:=bytesN_bd t
   have e1:(litN s i).2=if (bytesN t).2.2≠0 then ((i:Int)+(bytesN t).2.1,(bytesN t).2.2) else ((e:Int),0):=by
    unfold litN
    rw [hl]
    simp only [if_pos h34,← ht]
    split <;> rfl
   rw [e1]
   obtain ⟨O,P,E,hBN⟩:∃ O P E,bytesN t=(O,P,E):=⟨_,_,_,rfl⟩
   rw [hBN] at hby hpb ⊢
   simp only at hpb
   have HBY:=hide_ hby
   have d1:(bt s i == 34)=true:=by rw [hbi];simp;omega
   have hHT:=hide_ ht
   have HTS:=hide_ hts
   clear hby e1 hl hBN h34
   have hp1:(i:Int)+P≤140737488351240:=by omega
   have hp0:0≤P:=hpb.1
   clear hpb hts
   by_cases hE:E=0
   ·subst hE
    rw [if_neg (by simp)]
    clear hp0 hp1
    go_enter Tryz.func202,Tryz.ntmps202
    go_wp2_with fail
    refine HQ.out.mono ?_
    rintro e' w2 ⟨rfl,rfl⟩
    go_wp2_with fail
    rw [← hHT.out]
    refine HBY.out.mono ?_
    rintro e' w2 ⟨v,rfl,_,hb2⟩
    go_wp2
    go_ret2
    exact ⟨rfl,hb2⟩
   ·rw [if_pos hE]
    have dE:(E == 0)=false:=by simpa using hE
    have dE2:(E != 0)=true:=by simpa using hE
    have HE:=hide_ hE
    clear hE
    go_enter Tryz.func202,Tryz.ntmps202
    go_wp2_with fail
    refine HQ.out.mono ?_
    rintro e' w2 ⟨rfl,rfl⟩
    go_wp2_with fail
    rw [← hHT.out]
    refine HBY.out.mono ?_
    rintro e' w2 ⟨v,rfl,_,hb2⟩
    go_wp2
    go_ret2
    exact ⟨rfl,hb2⟩
  ·have hby:=trune_any t w (by omega)
   have hpb:=runeN_bd t
   have e1:(litN s i).2=if (runeN t).2.2≠0 then ((i:Int)+(runeN t).2.1,(runeN t).2.2) else ((e:Int),0):=by
    unfold litN
    rw [hl]
    simp only [if_neg h34,← ht]
    split <;> rfl
   rw [e1]
   obtain ⟨O,P,E,hBN⟩:∃ O P E,runeN t=(O,P,E):=⟨_,_,_,rfl⟩
   rw [hBN] at hby hpb ⊢
   simp only at hpb
   have HBY:=hide_ hby
   have d1:(bt s i == 34)=false:=by rw [hbi];simp;omega
   have hHT:=hide_ ht
   have HTS:=hide_ hts
   clear hby e1 hl hBN h34
   have hp1:(i:Int)+P≤140737488351240:=by omega
   have hp0:0≤P:=hpb.1
   clear hpb hts
   by_cases hE:E=0
   ·subst hE
    rw [if_neg (by simp)]
    clear hp0 hp1
    go_enter Tryz.func202,Tryz.ntmps202
    go_wp2_with fail
    refine HQ.out.mono ?_
    rintro e' w2 ⟨rfl,rfl⟩
    go_wp2_with fail
    rw [← hHT.out]
    refine HBY.out.mono ?_
    rintro e' w2 ⟨rfl,hb2⟩
    go_wp2
    go_ret2
    exact ⟨rfl,hb2⟩
   ·rw [if_pos hE]
    have dE:(E == 0)=false:=by simpa using hE
    have dE2:(E != 0)=true:=by simpa using hE
    have HE:=hide_ hE
    clear hE
    go_enter Tryz.func202,Tryz.ntmps202
    go_wp2_with fail
    refine HQ.out.mono ?_
    rintro e' w2 ⟨rfl,rfl⟩
    go_wp2_with fail
    rw [← hHT.out]
    refine HBY.out.mono ?_
    rintro e' w2 ⟨rfl,hb2⟩
    go_wp2
    go_ret2
    exact ⟨rfl,hb2⟩
end Go.Proofs.YtikbegmodacopaaGreatDoor
namespace Go.Proofs.YtikbegmodacopaaGreatDoor
open Go.RowKit Go.PlainAid Go.Shelf
attribute [local go_sem] Oper.semAt_some
set_option linter.unusedVariables false
theorem cutR_low (s:ByteArray) (i:Nat) (h:bn s i<128):cutR s i=(bn s i:Int):=by
 have hd:Utf8.decode s i=(bn s i,1):=by
  rw [Lib.decode_at]
  unfold bn at h ⊢
  unfold Lib.decodeN
  rw [if_pos h]
 have hl:¬ lost s i:=by
  unfold lost
  rw [hd]
  simp only
  omega
 unfold cutR
 rw [if_neg hl,hd]
theorem cutR_high (s:ByteArray) (i:Nat) (h:128≤bn s i):cutR s i<0∨128≤cutR s i:=by
 unfold cutR
 split
 ·left;omega
 ·right
  rw [Lib.decode_at]
  unfold bn at h
  unfold Lib.decodeN
  rw [if_neg (by omega)]
  repeat' split
  all_goals simp
  all_goals omega
theorem cutR_is (s:ByteArray) (i c:Nat) (hc:c<128):cutR s i=(c:Int) ↔ bn s i=c:=by
 by_cases h:bn s i<128
 ·rw [cutR_low s i h];omega
 ·have:=cutR_high s i (by omega)
  omega
theorem digR_cut (s:ByteArray) (i:Nat):digR (cutR s i)=decide (48≤bn s i∧bn s i≤57):=by
 unfold digR
 by_cases h:bn s i<128
 ·rw [cutR_low s i h]
  by_cases h1:48≤bn s i∧bn s i≤57
  ·rw [decide_eq_true h1,decide_eq_true (by omega:(48:Int)≤(bn s i:Int)),decide_eq_true (by omega:(bn s i:Int)≤57)];rfl
  ·rw [decide_eq_false h1]
   by_cases h2:48≤bn s i
   ·rw [decide_eq_false (by omega:¬ (bn s i:Int)≤57),Bool.and_false]
   ·rw [decide_eq_false (by omega:¬ (48:Int)≤(bn s i:Int)),Bool.false_and]
 ·have h3:=cutR_high s i (by omega)
  rw [decide_eq_false (show ¬ (48≤bn s i∧bn s i≤57) by omega)]
  rcases h3 with h3 | h3
  ·rw [decide_eq_false (by omega:¬ (48:Int)≤cutR s i),Bool.false_and]
  ·rw [decide_eq_false (by omega:¬ cutR s i≤57),Bool.and_false]
abbrev TokIs (x:Int × Int × Int) (w:World) (e:Ending) (w':World):Prop:=e=.returned (.tuple #[.int .u8 x.1,.int .i64 x.2.1,.int .i64 x.2.2])∧Below w.heap.size w w'
set_option maxRecDepth 100000 in
set_option maxHeartbeats 2000000 in
theorem token_any (s:ByteArray) (i:Nat) (A:Option Addr) (n c B:Nat) (sg:List ByteArray) (w:World) (hz:s.size≤140737488351232) (hi:i<s.size) (hn:n≤1048576) (hr:Reads w B 1 A n (sg.map Value.string)) (hB:B≤w.heap.size) :
  Calls Tryz.prog 185 #[.string s,.int .i64 i,.slice A n c] w (TokIs (tokN s sg i) w):=by
 have mixed:Tryz.prog.follows .mixedOrders=true:=by kernel_rfl
 obtain ⟨X,hX⟩:∃ X,X=tokN s sg i:=⟨_,rfl⟩
 have HX:=hide_ hX
 rw [← hX]
 clear hX
 have H0:=hide_ (show cutR (s.extract i s.size) 0=cutR s i by rw [cutR_ext s i 0 (by omega)];rfl)
 have HT:=hide_ (size_ext s i)
 refine (callsIn_wide (n:=30)).1 ?_
 refine callsIn_of_wp_marks Tryz.func185 rfl trivial ?_ rfl
 simp only [Tryz.ntmps185,List.size_toArray,List.length_cons,List.length_nil,Nat.reduceAdd,Nat.reduceSub,Array.replicate_succ,Array.replicate_zero,List.push_toArray,List.append_toArray,List.nil_append,List.cons_append]
 gi_wp2_with fail
 refine ⟨trivial,?_⟩
 refine (callsIn_wide.2 (cutting_any (s.extract i s.size) _)).mono ?_
 rintro e w2 ⟨rfl,rfl⟩
 gi_wp2_with fail
 obtain ⟨t,ht⟩:∃ t,t=s.extract i s.size:=⟨_,rfl⟩
 rw [← ht] at H0 HT ⊢
 clear ht
 have hts:0<t.size:=by rw [HT.out];omega
 have b0:=(Boxed.new w 21 (.int .i32 (-1))).alloc (.cells #[.string t] 9)
 have b1:=Boxed.new (w.alloc (.cells #[.int .i32 (-1)] 21)) 9 (.string t)
 simp only [World.size_alloc] at b1
 have hB3:Below w.heap.size w ((w.alloc (.cells #[.int .i32 (-1)] 21)).alloc (.cells #[.string t] 9)):=((Below.refl _ w).alloc (Nat.le_refl _) _).alloc (by simp) _
 have hsz:((w.alloc (.cells #[.int .i32 (-1)] 21)).alloc (.cells #[.string t] 9)).heap.size=w.heap.size+1+1:=by simp
 obtain ⟨w3,hw3⟩:∃ w3,(w.alloc (.cells #[.int .i32 (-1)] 21)).alloc (.cells #[.string t] 9)=w3:=⟨_,rfl⟩
 rw [hw3] at b0 b1 hB3 hsz ⊢
 clear hw3
 have HSZ:=hide_ hsz
 have hnb:w.heap.size+1<w3.heap.size:=by omega
 clear hsz
 refine rangeB (Bn:=w.heap.size+1) (s:=t) (P':=22) (Q':=11) (by omega) rfl (by omega) b1.cell
  (fun pre W=>pre=[]∧(Boxed W w.heap.size 21 (.int .i32 (-1))∧Below w.heap.size w3 W))
  (fun cd pre W=>∃ x:Nat × Int,(cd=.exit 0∧pre=[x])∧(Boxed W w.heap.size 21 (.int .i32 x.2)∧Below w.heap.size w3 W))
  (OwnFrom.and (ownFrom_pure _ _) (OwnFrom.and (Own.from (boxed_own _ _ _) _) (ownFrom_below (by omega) (by omega))))
  (fun cd=>ownFrom_ex fun x=>OwnFrom.and (ownFrom_pure _ (fun pre=>cd=.exit 0∧pre=[x])) (OwnFrom.and (Own.from (boxed_own _ _ _) _) (ownFrom_below (by omega) (by omega))))
  ⟨rfl,b0,Below.refl _ _⟩ ?assign1 ?body1 ?done1 ?stop1
 case assign1 =>
  intro l x W K hK
  simp only [updA,List.setIfInBounds_toArray,List.set_cons_succ,List.set_cons_zero] at hK ⊢
  gi_wp2
  exact hK
 case done1 =>
  rintro D W hD ⟨hnil,_⟩ hk
  exfalso
  rw [cuts_at,cutsAt_lt t 0 hts] at hnil
  cases hnil
 case body1 =>
  rintro l pre ⟨p,r⟩ W hmem hl hr2 ⟨rfl,bN,hBW⟩ hlen
  simp only [updA,List.setIfInBounds_toArray,List.set_cons_succ,List.set_cons_zero]
  have cN:=bN.cell
  have fN:=bN.frozen
  have lN:=bN.lt
  clear hmem hlen
  gi_wp2
  exact ⟨(KeepsOthers.setCell _ _ _).from _,(p,r),⟨rfl,rfl⟩,bN.set (.int .i32 r),hBW.setCell (p:=⟨w.heap.size,0,none⟩) (Nat.le_refl _) _⟩
 case stop1 =>
  rintro D cd pre W hD hS ⟨x,⟨rfl,rfl⟩,bN,hBW⟩ hk
  have hx:x=(0,cutR t 0):=by
   rw [cuts_at,cutsAt_lt t 0 hts] at hS
   obtain ⟨suf,hsuf⟩:=hS
   simp only [List.cons_append,List.nil_append,List.cons.injEq] at hsuf
   exact hsuf.1
  subst hx
  simp only [H0.out] at bN
  obtain ⟨R,hR⟩:∃ R,R=cutR s i:=⟨_,rfl⟩
  rw [← hR] at bN
  have cN:=bN.cell
  have lN:=bN.lt
  have hDW:D<W.heap.size:=(Array.getElem?_eq_some_iff.1 hk).1
  have HK:=hide_ hk
  have HBW:=hide_ (hB3.trans hBW)
  have hsW:=(hB3.trans hBW).size
  have HFIN:Hid (∀ W' ,Below W.heap.size W W'→W'.heap[D]?=some (.deferred (some []))∧(Below w.heap.size w (W'.putObj D (.deferred none)))):=hide_ fun W' h=>by
   have h1:W'.heap[D]?=some (.deferred (some [])):=(h.block D hDW).trans hk
   exact ⟨h1,((hB3.trans hBW).trans (h.mono hsW)).trans (belowK_b (n₀:=w.heap.size) (w:=w) (Nat.le_refl _) _ D _ _ (by omega) h1 rfl rfl)⟩
  have HSG:=hide_ (fun W' (h:Below W.heap.size W W')=>signed_any s i A n c B sg W' (by omega) hi hn ((hr.below (((hB3.trans hBW).mono hB))).below (h.mono (Nat.le_trans hB hsW))) (by have:=h.size;omega))
  clear hk hS bN hBW hB3 b0 b1 hr
  by_cases h10:bn s i=10
  ·have HE:=hide_ (show X=(6,(i:Int)+1,0) by rw [HX.out];unfold tokN;rw [if_pos h10])
   have d10:(R == 10)=true:=by have:=(cutR_is s i 10 (by omega)).2 h10;rw [hR,this];rfl
   clear hR h10
   gi_wp2
   obtain ⟨hkE,hBE⟩:=HFIN.out _ (Below.refl _ W)
   refine ⟨by simp,.inl ⟨_,_,rfl,run_takeDeferred hkE,?_⟩⟩
   exact ⟨.tuple #[.int .u8 X.1,.int .i64 X.2.1,.int .i64 X.2.2],by rw [HE.out];simp [results,Tryz.results185,go_sem],rfl,hBE⟩
  have d10:(R == 10)=false:=by rw [beq_eq_false_iff_ne,hR];exact fun h=>h10 ((cutR_is s i 10 (by omega)).1 h)
  have HL:=hide_ (fun W'=>letter_any R W')
  by_cases hnm:letR (cutR s i)=true∨cutR s i=95
  ·have HE:=hide_ (show X=(1,(nameE s i:Int),0) by rw [HX.out];unfold tokN;rw [if_neg h10,if_pos hnm])
   have HROW:=hide_ (fun W'=>row_any s i W' hz (by omega))
   rw [← hR] at hnm
   cases hlt:letR R with
   | true =>
    rw [hlt] at HL
    clear hR h10 hnm hlt
    gi_wp2_with fail
    refine ⟨trivial,?_⟩
    refine (callsIn_wide.2 (HL.out _)).mono ?_
    rintro e w4 ⟨rfl,rfl⟩
    gi_wp2_with fail
    refine ⟨trivial,?_⟩
    refine (callsIn_wide.2 (HROW.out _)).mono ?_
    rintro e w5 ⟨rfl,hb5⟩
    gi_wp2
    obtain ⟨hkE,hBE⟩:=HFIN.out _ hb5
    refine ⟨by simp,.inl ⟨_,_,rfl,run_takeDeferred hkE,?_⟩⟩
    exact ⟨.tuple #[.int .u8 X.1,.int .i64 X.2.1,.int .i64 X.2.2],by rw [HE.out];simp [results,Tryz.results185,go_sem],rfl,hBE⟩
   | false =>
    have d95:(R == 95)=true:=by rw [hlt] at hnm;simpa using hnm
    rw [hlt] at HL
    clear hR h10 hnm hlt
    gi_wp2_with fail
    refine ⟨trivial,?_⟩
    refine (callsIn_wide.2 (HL.out _)).mono ?_
    rintro e w4 ⟨rfl,rfl⟩
    gi_wp2_with fail
    refine ⟨trivial,?_⟩
    refine (callsIn_wide.2 (HROW.out _)).mono ?_
    rintro e w5 ⟨rfl,hb5⟩
    gi_wp2
    obtain ⟨hkE,hBE⟩:=HFIN.out _ hb5
    refine ⟨by simp,.inl ⟨_,_,rfl,run_takeDeferred hkE,?_⟩⟩
    exact ⟨.tuple #[.int .u8 X.1,.int .i64 X.2.1,.int .i64 X.2.2],by rw [HE.out];simp [results,Tryz.results185,go_sem],rfl,hBE⟩
  have hlt:letR R=false:=by rw [hR];simpa using fun h=>hnm (.inl h)
  have d95:(R == 95)=false:=by rw [beq_eq_false_iff_ne,hR];exact fun h=>hnm (.inr h)
  rw [hlt] at HL
  clear hlt
  have HD:=hide_ (fun W'=>digit_any R W')
  by_cases hdg:48≤bn s i∧bn s i≤57
  ·have HE:=hide_ (show X=(2,(figE s i:Int),0) by rw [HX.out];unfold tokN;rw [if_neg h10,if_neg hnm,if_pos hdg])
   have hdr:digR R=true:=by rw [hR,digR_cut,decide_eq_true hdg]
   have HFIG:=hide_ (fun W'=>figured_any s i W' hz hi (by omega))
   rw [hdr] at HD
   clear hR h10 hnm hdg hdr
   gi_wp2_with fail
   refine ⟨trivial,?_⟩
   refine (callsIn_wide.2 (HL.out _)).mono ?_
   rintro e w4 ⟨rfl,rfl⟩
   gi_wp2_with fail
   refine ⟨trivial,?_⟩
   refine (callsIn_wide.2 (HD.out _)).mono ?_
   rintro e w4 ⟨rfl,rfl⟩
   gi_wp2_with fail
   refine ⟨trivial,?_⟩
   refine (callsIn_wide.2 (HFIG.out _)).mono ?_
   rintro e w5 ⟨rfl,rfl⟩
   gi_wp2
   obtain ⟨hkE,hBE⟩:=HFIN.out _ (Below.refl _ _)
   refine ⟨by simp,.inl ⟨_,_,rfl,run_takeDeferred hkE,?_⟩⟩
   exact ⟨.tuple #[.int .u8 X.1,.int .i64 X.2.1,.int .i64 X.2.2],by rw [HE.out];simp [results,Tryz.results185,go_sem],rfl,hBE⟩
  have hdr:digR R=false:=by rw [hR,digR_cut,decide_eq_false hdg]
  rw [hdr] at HD
  clear hdr
  by_cases hq:bn s i=34∨bn s i=39
  ·have HLIT:=hide_ (fun W'=>literal_any s i W' hz hi)
   have HE0:X=litN s i:=by rw [HX.out];unfold tokN;rw [if_neg h10,if_neg hnm,if_neg hdg,if_pos hq]
   by_cases h34:bn s i=34
   ·have HE:=hide_ (show X=(3,(litN s i).2) by rw [HE0];unfold litN;simp only [if_pos h34];split <;> (try split) <;> rfl)
    have d34:(R == 34)=true:=by have:=(cutR_is s i 34 (by omega)).2 h34;rw [hR,this];rfl
    clear hR h10 hnm hdg hq h34 HE0
    gi_wp2_with fail
    refine ⟨trivial,?_⟩
    refine (callsIn_wide.2 (HL.out _)).mono ?_
    rintro e w4 ⟨rfl,rfl⟩
    gi_wp2_with fail
    refine ⟨trivial,?_⟩
    refine (callsIn_wide.2 (HD.out _)).mono ?_
    rintro e w4 ⟨rfl,rfl⟩
    gi_wp2_with fail
    refine ⟨trivial,?_⟩
    refine (callsIn_wide.2 (HLIT.out _)).mono ?_
    rintro e w5 ⟨rfl,hb5⟩
    gi_wp2
    obtain ⟨hkE,hBE⟩:=HFIN.out _ hb5
    refine ⟨by simp,.inl ⟨_,_,rfl,run_takeDeferred hkE,?_⟩⟩
    exact ⟨.tuple #[.int .u8 X.1,.int .i64 X.2.1,.int .i64 X.2.2],by rw [HE.out];simp [results,Tryz.results185,go_sem],rfl,hBE⟩
   ·have h39:bn s i=39:=hq.resolve_left h34
    have HE:=hide_ (show X=(4,(litN s i).2) by rw [HE0];unfold litN;simp only [if_neg h34];split <;> (try split) <;> rfl)
    have d34:(R == 34)=false:=by rw [beq_eq_false_iff_ne,hR];exact fun h=>h34 ((cutR_is s i 34 (by omega)).1 h)
    have d39:(R == 39)=true:=by have:=(cutR_is s i 39 (by omega)).2 h39;rw [hR,this];rfl
    clear hR h10 hnm hdg hq h34 h39 HE0
    gi_wp2_with fail
    refine ⟨trivial,?_⟩
    refine (callsIn_wide.2 (HL.out _)).mono ?_
    rintro e w4 ⟨rfl,rfl⟩
    gi_wp2_with fail
    refine ⟨trivial,?_⟩
    refine (callsIn_wide.2 (HD.out _)).mono ?_
    rintro e w4 ⟨rfl,rfl⟩
    gi_wp2_with fail
    refine ⟨trivial,?_⟩
    refine (callsIn_wide.2 (HLIT.out _)).mono ?_
    rintro e w5 ⟨rfl,hb5⟩
    gi_wp2
    obtain ⟨hkE,hBE⟩:=HFIN.out _ hb5
    refine ⟨by simp,.inl ⟨_,_,rfl,run_takeDeferred hkE,?_⟩⟩
    exact ⟨.tuple #[.int .u8 X.1,.int .i64 X.2.1,.int .i64 X.2.2],by rw [HE.out];simp [results,Tryz.results185,go_sem],rfl,hBE⟩
  have d34:(R == 34)=false:=by rw [beq_eq_false_iff_ne,hR];exact fun h=>hq (.inl ((cutR_is s i 34 (by omega)).1 h))
  have d39:(R == 39)=false:=by rw [beq_eq_false_iff_ne,hR];exact fun h=>hq (.inr ((cutR_is s i 39 (by omega)).1 h))
  have HE0:X=if 0<(signN s i sg).size then (5,(i:Int)+(signN s i sg).size,0) else if cutR s i<0 then (0,(i:Int),13) else (0,(i:Int),10):=by rw [HX.out];unfold tokN;rw [if_neg h10,if_neg hnm,if_neg hdg,if_neg hq]
  have hfit:=signN_fits s i sg
  obtain ⟨g,hg⟩:∃ g,g=signN s i sg:=⟨_,rfl⟩
  rw [← hg] at HE0 hfit HSG
  rw [← hR] at HE0
  clear hR h10 hnm hdg hq hg
  by_cases hgs:0<g.size
  ·rw [if_pos hgs] at HE0
   have HE:=hide_ HE0
   have hgb:=(hfit hgs).1
   have dgs:=not_empty g hgs
   clear HE0 hfit hgs
   gi_wp2_with fail
   refine ⟨trivial,?_⟩
   refine (callsIn_wide.2 (HL.out _)).mono ?_
   rintro e w4 ⟨rfl,rfl⟩
   gi_wp2_with fail
   refine ⟨trivial,?_⟩
   refine (callsIn_wide.2 (HD.out _)).mono ?_
   rintro e w4 ⟨rfl,rfl⟩
   gi_wp2_with fail
   refine ⟨trivial,?_⟩
   refine (callsIn_wide.2 (HSG.out _ (Below.refl _ _))).mono ?_
   rintro e w5 ⟨rfl,rfl⟩
   gi_wp2
   obtain ⟨hkE,hBE⟩:=HFIN.out _ (Below.refl _ _)
   refine ⟨by simp,.inl ⟨_,_,rfl,run_takeDeferred hkE,?_⟩⟩
   exact ⟨.tuple #[.int .u8 X.1,.int .i64 X.2.1,.int .i64 X.2.2],by rw [HE.out];simp [results,Tryz.results185,go_sem],rfl,hBE⟩
  have hg0:g=⟨#[]⟩:=is_empty g (by omega)
  rw [if_neg hgs] at HE0
  subst hg0
  clear hfit hgs
  by_cases hneg:R<0
  ·rw [if_pos hneg] at HE0
   have HE:=hide_ HE0
   have dn:decide (R<0)=true:=by simpa using hneg
   clear HE0 hneg
   gi_wp2_with fail
   refine ⟨trivial,?_⟩
   refine (callsIn_wide.2 (HL.out _)).mono ?_
   rintro e w4 ⟨rfl,rfl⟩
   gi_wp2_with fail
   refine ⟨trivial,?_⟩
   refine (callsIn_wide.2 (HD.out _)).mono ?_
   rintro e w4 ⟨rfl,rfl⟩
   gi_wp2_with fail
   refine ⟨trivial,?_⟩
   refine (callsIn_wide.2 (HSG.out _ (Below.refl _ _))).mono ?_
   rintro e w5 ⟨rfl,rfl⟩
   gi_wp2
   obtain ⟨hkE,hBE⟩:=HFIN.out _ (Below.refl _ _)
   refine ⟨by simp,.inl ⟨_,_,rfl,run_takeDeferred hkE,?_⟩⟩
   exact ⟨.tuple #[.int .u8 X.1,.int .i64 X.2.1,.int .i64 X.2.2],by rw [HE.out];simp [results,Tryz.results185,go_sem],rfl,hBE⟩
  ·rw [if_neg hneg] at HE0
   have HE:=hide_ HE0
   have dn:decide (R<0)=false:=by simpa using hneg
   clear HE0 hneg
   gi_wp2_with fail
   refine ⟨trivial,?_⟩
   refine (callsIn_wide.2 (HL.out _)).mono ?_
   rintro e w4 ⟨rfl,rfl⟩
   gi_wp2_with fail
   refine ⟨trivial,?_⟩
   refine (callsIn_wide.2 (HD.out _)).mono ?_
   rintro e w4 ⟨rfl,rfl⟩
   gi_wp2_with fail
   refine ⟨trivial,?_⟩
   refine (callsIn_wide.2 (HSG.out _ (Below.refl _ _))).mono ?_
   rintro e w5 ⟨rfl,rfl⟩
   gi_wp2
   obtain ⟨hkE,hBE⟩:=HFIN.out _ (Below.refl _ _)
   refine ⟨by simp,.inl ⟨_,_,rfl,run_takeDeferred hkE,?_⟩⟩
   exact ⟨.tuple #[.int .u8 X.1,.int .i64 X.2.1,.int .i64 X.2.2],by rw [HE.out];simp [results,Tryz.results185,go_sem],rfl,hBE⟩
end Go.Proofs.YtikbegmodacopaaGreatDoor
namespace Go.Proofs.YtikbegmodacopaaGreatDoor
open Go.RowKit Go.PlainAid
set_option linter.unusedVariables false
set_option maxRecDepth 100000
def tkCells (s:ByteArray) (l:List Tk):List Value:=l.flatMap fun t=>[.int .u8 t.1,.int .i64 t.2.1,.string (s.extract t.2.1 t.2.2)]
theorem tkCells_snoc (s:ByteArray) (l:List Tk) (t:Tk):tkCells s (l ++ [t])=tkCells s l ++ [.int .u8 t.1,.int .i64 t.2.1,.string (s.extract t.2.1 t.2.2)]:=by simp [tkCells]
def ToksIs (s:ByteArray) (x:Option (List Tk) × Int × Int) (w:World) (e:Ending) (w':World):Prop :=
 ∃ v,e=.returned (.tuple #[v,.int .i64 x.2.1,.int .i64 x.2.2])∧w'.ownsRow w.heap.size 197 3 v (x.1.getD []).length (tkCells s (x.1.getD []))∧Below w.heap.size w w'
theorem token_info:(Tryz.prog.info? 197).map (fun i=>(i.zero,i.size,i.bytes))=some (some (.agg #[.int .u8 0,.int .i64 0,.string ⟨#[]⟩]),3,32):=by kernel_rfl
theorem index_line (s:ByteArray):∀ (f i:Nat),s.size - i≤f→i≤s.size→Lib.indexByte (s.data.toList.drop i) 10=if lineF s f i<s.size then ((lineF s f i:Int) - i) else -1:=by
 intro f
 induction f with
 | zero =>
  intro i hf hi
  have hnil:s.data.toList.drop i=[]:=List.drop_eq_nil_of_le (by show s.size≤i;omega)
  rw [hnil,lineF,if_neg (by omega)]
  rfl
 | succ f ih =>
  intro i hf hi
  rw [lineF]
  by_cases h:i<s.size
  ·rw [if_pos h,drop_get s i h,Lib.indexByte]
   have hk:(s.get! i == 10)=decide (bn s i=10):=by
    unfold bn
    rw [Bool.eq_iff_iff,beq_iff_eq,decide_eq_true_iff]
    exact ⟨fun e=>by rw [e];rfl,fun e=>UInt8.toNat_inj.1 e⟩
   by_cases h10:bn s i=10
   ·rw [hk,decide_eq_true h10,if_pos h10,if_pos rfl,if_pos h]
    omega
   ·rw [hk,decide_eq_false h10,if_neg h10,if_neg (by decide),ih (i+1) (by omega) (by omega)]
    have hb:=lineF_bd s f (i+1) (by omega)
    by_cases hl:lineF s f (i+1)<s.size
    ·rw [if_pos hl,if_pos hl,if_neg (by simp;omega)]
     omega
    ·rw [if_neg hl,if_neg hl]
     rfl
  ·rw [if_neg h,if_neg h]
   have hnil:s.data.toList.drop i=[]:=List.drop_eq_nil_of_le (by show s.size≤i;omega)
   rw [hnil]
   rfl
theorem ext_drop (s:ByteArray) (i:Nat):(s.extract i s.size).data.toList=s.data.toList.drop i:=by
 rw [ByteArray.data_extract,Array.toList_extract,List.extract_eq_take_drop]
 exact List.take_of_length_le (Nat.le_of_eq (by rw [List.length_drop];rfl))
set_option maxHeartbeats 2000000 in
theorem tokens_any (s:ByteArray) (A:Option Addr) (n c B:Nat) (sg:List ByteArray) (w:World) (hz:s.size≤140737488351232) (hn:n≤140737488351232) (hc:n≤c) (hr:Reads w B 1 A n (sg.map Value.string)) (hB:B≤w.heap.size) :
  Calls Tryz.prog 175 #[.string s,.slice A n c] w (ToksIs s (toksN s sg) w):=by
 have hlen:sg.length=n:=by have:=hr.1;simpa using this
 have HF:=hide_ (fit_any A n c B sg w hn hc hr hB)
 unfold toksN
 cases hok:signsOk sg with
 | false =>
  rw [if_pos rfl]
  rw [hok] at HF
  clear hr hlen
  go_enter Tryz.func175,Tryz.ntmps175
  go_wp2_with fail
  go_step3
  go_wp2_with fail
  refine HF.out.mono ?_
  rintro e w2 ⟨rfl,hb⟩
  have HB:=hide_ hb
  clear hb
  go_wp2
  rw [Exit.noGoto_ret]
  go_ret3
  exact ⟨_,rfl,World.ownsRow_nil _ _ _ _,HB.out⟩
 | true =>
 rw [if_neg (by decide)]
 rw [hok] at HF
 have hn64:n≤64:=by
  rcases Nat.lt_or_ge 64 n with h | h
  ·have:=signsOk_long sg (by omega)
   rw [hok] at this
   cases this
  ·exact h
 clear hok hn
 by_cases hbig:524288<s.size
 ·rw [if_pos hbig]
  have d0:decide (524288<(s.size:Int))=true:=decide_eq_true (by omega)
  clear hbig hr hlen
  go_enter Tryz.func175,Tryz.ntmps175
  go_wp2_with fail
  go_step3
  go_wp2_with fail
  refine HF.out.mono ?_
  rintro e w2 ⟨rfl,hb⟩
  have HB:=hide_ hb
  clear hb
  go_wp2
  rw [Exit.noGoto_ret]
  go_ret3
  exact ⟨_,rfl,World.ownsRow_nil _ _ _ _,HB.out⟩
 rw [if_neg hbig]
 have hz2:s.size≤524288:=by omega
 have d0:decide (524288<(s.size:Int))=false:=decide_eq_false (by omega)
 obtain ⟨i0,hi0,hz0,hz1,hz2'⟩:=info_parts token_info
 have hbt:=get_bt s
 obtain ⟨X,hX⟩:∃ X,X=toksAt s sg 0:=⟨_,rfl⟩
 have HX:=hide_ hX
 rw [← hX]
 have HTOK:=hide_ (show ∀ (m:Nat) (W:World),m<s.size→Below w.heap.size w W→Calls Tryz.prog 185 #[.string s,.int .i64 m,.slice A n c] W (TokIs (tokN s sg m) W) from fun m W hm hW =>
  token_any s m A n c B sg W hz hm (by omega) (hr.below (hW.mono hB)) (Nat.le_trans hB hW.size))
 clear hX hr hlen hbig hz
 go_enter Tryz.func175,Tryz.ntmps175
 go_wp2_with fail
 go_step3
 go_wp2_with fail
 refine HF.out.mono ?_
 rintro e w2 ⟨rfl,hb2⟩
 have HB2:=hide_ hb2
 clear hb2 HF
 go_wp2_with fail
 go_step3
 go_wp2_with fail
 go_loopw [7,8] (fun v k wr=>∃ (m:Nat) (acc:List Tk),k=.int .i64 m∧m≤s.size∧acc.length≤m∧Hid (X=addTk acc (toksAt s sg m))∧wr.ownsRow w.heap.size 197 3 v acc.length (tkCells s acc)∧Below w.heap.size w wr) (fun _ k _=>s.size - (intOf k).toNat)
 case atStart=>exact ⟨0,[],rfl,Nat.zero_le _,Nat.le_refl _,hide_ (by rw [addTk_nil];exact HX.out),World.ownsRow_nil _ _ _ _,HB2.out⟩
 case round =>
  clear HX HB2
  obtain ⟨m,acc,rfl,hm,hacc,HX,hown,hb⟩:=hrel
  obtain ⟨A0,c0,rfl,hc0,hc1⟩:=ownsRow_slice hown
  have HB:=hide_ hb
  have HSZ:=hide_ hb.size
  have HOWN:=hide_ hown
  clear hb hown
  by_cases hlt:m<s.size
  ·have hbm:=bt_eq s m hlt
   by_cases hbl:bn s m=9∨bn s m=13∨bn s m=32
   ·have HX2:=hide_ (show X=addTk acc (toksAt s sg (m+1)) by rw [HX.out,toksAt_blank s sg m hlt hbl])
    have hhb:bt s m=9∨bt s m=13∨bt s m=32:=by omega
    clear HX hbl hbm
    rcases hhb with h9 | h9 | h9
    all_goals
     go_wp2
     go_roundw
     case rel=>exact ⟨m+1,acc,by go_num,by omega,by omega,HX2,HOWN.out,HB.out⟩
     case measure=>simp [intOf];omega
   have e9:(bt s m == 9)=false:=by rw [hbm];simp;omega
   have e13:(bt s m == 13)=false:=by rw [hbm];simp;omega
   have e32:(bt s m == 32)=false:=by rw [hbm];simp;omega
   by_cases h35:bn s m=35
   ·have HX2:=hide_ (show X=addTk acc (toksAt s sg (lineE s m)) by rw [HX.out,toksAt_note s sg m hlt h35])
    have hl:=lineE_lt s m hlt h35
    have hix:=index_line s (s.size - m) m (Nat.le_refl _) (by omega)
    rw [show lineF s (s.size - m) m=lineE s m from rfl,← ext_drop] at hix
    have HI:=hide_ (Tryz.strings_IndexByte (s.extract m s.size) 10)
    rw [show (10:Int).toNat.toUInt8=10 from rfl,hix] at HI
    have h35':bt s m=35:=by omega
    obtain ⟨q,hq⟩:∃ q,q=lineE s m:=⟨_,rfl⟩
    rw [← hq] at HI hl HX2
    clear HX hbl hbm hix hq e9 e13 e32 h35
    by_cases hqe:q<s.size
    ·rw [if_pos hqe] at HI
     have hq1:((m:Int)+((q:Int) - m))=q:=by omega
     obtain ⟨D,hD⟩:∃ D:Nat,(q:Int) - m=D:=⟨q - m,by omega⟩
     rw [hD] at HI
     have hmD:m+D=q:=by omega
     clear hq1 hD
     go_wp2_with fail
     refine (HI.out _).mono ?_
     rintro e w3 ⟨rfl,rfl⟩
     go_wp2
     go_roundw
     case rel=>exact ⟨q,acc,by rw [← hmD];go_num,by omega,by omega,HX2,HOWN.out,HB.out⟩
     case measure=>simp [intOf];omega
    ·rw [if_neg hqe] at HI
     have HX3:=hide_ (show X=(some acc,0,0) by rw [HX2.out,toksAt_ge s sg q (by omega)];unfold addTk;simp)
     clear HX2
     go_wp2_with fail
     refine (HI.out _).mono ?_
     rintro e w3 ⟨rfl,rfl⟩
     go_wp2
     rw [Exit.noGoto_ret]
     go_ret3
     rw [HX3.out]
     exact ⟨_,rfl,HOWN.out,HB.out⟩
   have e35:(bt s m == 35)=false:=by rw [hbm];simp;omega
   have HT:=hide_ (HTOK.out m wr hlt HB.out)
   obtain ⟨K,E,ER,hT⟩:∃ K E ER,tokN s sg m=(K,E,ER):=⟨_,_,_,rfl⟩
   have hend:=tokN_end s sg m hlt
   by_cases her:ER=0
   ·subst her
    rw [hT] at hend
    simp only at hend
    have hend2:=hend trivial
    obtain ⟨q,rfl⟩:∃ q:Nat,E=q:=⟨E.toNat,by omega⟩
    have HX2:=hide_ (show X=addTk (acc ++ [(K,m,q)]) (toksAt s sg q) by rw [HX.out,toksAt_tok s sg m q K hlt hbl h35 hT,addTk_add])
    rw [hT] at HT
    have hmq:m<q:=by omega
    have hqs:q≤s.size:=by omega
    clear HX hbl hbm hT hend hend2 h35
    go_wp2_with fail
    refine HT.out.mono ?_
    rintro e w3 ⟨rfl,hb3⟩
    have hO1:Owns w3 w.heap.size [⟨197,3,.slice A0 acc.length c0,acc.length,tkCells s acc⟩]:=(one_row HOWN.out).below hb3
    have HO:=hide_ hO1
    have HB3:=hide_ (HB.out.trans (hb3.mono HSZ.out))
    have HS3:=hide_ hb3.size
    clear hb3 hO1
    go_wp2_with (at_builtin;refine wpList_append_owns _ rfl (.tmp 55) (.tmp 63) 192 rfl w.heap.size _ 0 197 3 (.slice A0 acc.length c0) acc.length (tkCells s acc) rfl (HO.out.alloc _) (by have:=HB3.out.size;simp;omega) i0 _ 32 Tryz.underlying192 hi0 hz0 hz1 hz2' rfl (by omega) rfl _ _ 1 1 [.int .u8 K,.int .i64 m,.string (s.extract m q)] rfl (reads_new w3 197 3 1 [.int .u8 K,.int .i64 m,.string (s.extract m q)] rfl) (by simp [Value.oneCell']) (by simp only [maxLen];omega) (by omega) ?_)
    intro v1 w4 hO1 hb1 hsz1
    have HB4:=hide_ ((HB3.out.alloc HB3.out.size _).trans hb1)
    have HO4:=hide_ (hO1.at_ (i:=0) rfl)
    clear hO1 hb1 hsz1
    go_wp2
    go_roundw
    case rel=>exact ⟨q,acc ++ [(K,m,q)],rfl,by omega,by simp;omega,HX2,by rw [tkCells_snoc,List.length_append];exact HO4.out,HB4.out⟩
    case measure=>simp [intOf];omega
   ·have HX2:=hide_ (show X=(none,E,ER) by rw [HX.out,toksAt_bad s sg m hlt hbl h35 (by rw [hT];exact her),hT];rfl)
    rw [hT] at HT
    have d2:(ER != 0)=true:=bne_iff_ne.2 her
    clear HX hbl hbm hT hend h35 her
    go_wp2_with fail
    refine HT.out.mono ?_
    rintro e w3 ⟨rfl,hb3⟩
    have HB3:=hide_ (HB.out.trans (hb3.mono HSZ.out))
    clear hb3
    go_wp2
    rw [Exit.noGoto_ret]
    go_ret3
    rw [HX2.out]
    exact ⟨_,rfl,World.ownsRow_nil _ _ _ _,HB3.out⟩
  ·have HX2:=hide_ (show X=(some acc,0,0) by rw [HX.out,toksAt_ge s sg m (by omega)];unfold addTk;simp)
   clear HX
   go_wp2
   rw [Exit.noGoto_ret]
   go_ret3
   rw [HX2.out]
   exact ⟨_,rfl,HOWN.out,HB.out⟩
end Go.Proofs.YtikbegmodacopaaGreatDoor
namespace Go.Proofs.YtikbegmodacopaaGreatDoor
open Go.RowKit Go.PlainAid
set_option linter.unusedVariables false
set_option maxRecDepth 100000
end Go.Proofs.YtikbegmodacopaaGreatDoor
namespace Go.Proofs.YtikbegmodacopaaGreatDoor
open Go.RowKit Go.PlainAid
set_option linter.unusedVariables false
set_option maxRecDepth 100000
end Go.Proofs.YtikbegmodacopaaGreatDoor
namespace Go.Proofs.YtikbegmodacopaaGreatDoor
open Go.RowKit Go.PlainAid Go.BigFrame
set_option linter.unusedVariables false
set_option maxRecDepth 100000
end Go.Proofs.YtikbegmodacopaaGreatDoor
namespace Go.Proofs.YtikbegmodacopaaGreatDoor
set_option maxRecDepth 100000
open Go.RowKit
theorem okWide_struct {P:Program} {w:World} {r:Reach} {base:Nat} {t:TypeId} {v:Value} {fs:Array Field} (ht:P.underlying t=some (.struct fs)) (h:Value.okWide P w r base t v):∃ l:List Value,v=.agg l.toArray:=by
 simp only [Value.okWide,ht] at h
 obtain ⟨cs,rfl,_,_⟩:=h
 exact ⟨cs.toList,by simp⟩
theorem skolem_lt {α:Type} [Inhabited α] {n:Nat} {p:Nat→α→Prop} (h:∀ i,i<n→∃ x,p i x):∃ f:Nat→α,∀ i,i<n→p i (f i):=by
 classical
 exact ⟨fun i=>if hi:i<n then Classical.choose (h i hi) else default,fun i hi=>by simp only [dif_pos hi];exact Classical.choose_spec (h i hi)⟩
section
variable {H:Type} {enc:TypeId × Value→H} {P:Program} {w:World} {held:Bool}
def Seen (enc:TypeId × Value→H) (P:Program) (w:World) (held:Bool) (t:TypeId) (cs:List Value):Prop :=
 ∃ n d p,DataW.trod enc P w 0 (fun _=>true) held n t cs=some (d,p)∧∀ x ∈ DataW.weights P t d,x≤reachBytes
theorem weights_all {e:TypeId} {l:List (DataW H)} {d:DataW H} (hd:d ∈ l):∀ x ∈ DataW.weights P e d,x ∈ DataW.weightsAll P e l:=by
 induction l with
 | nil=>cases hd
 | cons a r ih =>
  intro x hx
  rw [DataW.weightsAll]
  rcases List.mem_cons.1 hd with rfl | hr
  ·exact List.mem_append_left _ hx
  ·exact List.mem_append_right _ (ih hr x hx)
theorem seen_int {t:TypeId} {k:IntKind} {cs:List Value} (ht:P.underlying t=some (.int k)) (h:Seen enc P w held t cs):∃ a,cs=[.int k a]∧(Lit.int k a).wf=true:=by
 obtain ⟨n,d,p,h,_⟩:=h
 cases n with
 | zero=>simp [DataW.trod] at h
 | succ n =>
  unfold DataW.trod at h
  rw [ht] at h
  split at h <;> simp_all
theorem seen_string {t:TypeId} {cs:List Value} (ht:P.underlying t=some .string) (h:Seen enc P w held t cs):∃ s:ByteArray,cs=[.string s]∧s.size≤reachBytes:=by
 obtain ⟨n,d,p,h,hw⟩:=h
 cases n with
 | zero=>simp [DataW.trod] at h
 | succ n =>
  unfold DataW.trod at h
  rw [ht] at h
  split at h <;> simp_all
  rename_i s
  obtain ⟨_,rfl,_⟩:=h
  simpa [DataW.weights] using hw
theorem seen_struct {t:TypeId} {fs:Array Field} {cs:List Value} (ht:P.underlying t=some (.struct fs)) (h:Seen enc P w held t cs) :
  cs.length=P.cellsOf t∧∀ (i:Nat) (f:Field),fs[i]?=some f→Seen enc P w held f.type ((cs.drop f.offset).take (P.cellsOf f.type)):=by
 obtain ⟨n,d,p,h,hw⟩:=h
 obtain ⟨xs,m,rfl,hx,hl,hlen,hf⟩:=DataW.trod_struct ht h
 refine ⟨hl,fun i f hi=>?_⟩
 have hg:=hf i f hi
 have hil:i<xs.length:=by rw [hlen];exact (Array.getElem?_eq_some_iff.1 hi).1
 rw [List.getElem?_eq_getElem hil] at hg
 injection hx with hd _
 subst hd
 refine ⟨m,xs[i].1,xs[i].2,hg,fun x hx=>hw x ?_⟩
 rw [DataW.weights,ht]
 exact DataW.weights_mem_each (j:=i) (t:=f.type) (d:=xs[i].1) (by rw [List.getElem?_map,Array.getElem?_toList,hi];rfl) (by rw [List.getElem?_map,List.getElem?_eq_getElem hil];rfl) x hx
theorem seen_slice {t e:TypeId} {cs:List Value} (ht:P.underlying t=some (.slice e)) (he:0<P.cellsOf e) (h:Seen enc P w held t cs) :
  ∃ A n c,cs=[.slice A n c]∧n≤c∧c≤maxLen∧c * P.bytesOf e≤reachBytes ∧
   (0<n→∃ ad,A=some ad∧ad.block<w.heap.size∧∀ i,i<n→∃ vs,vs.length=P.cellsOf e∧(∀ j,j<P.cellsOf e→w.cell? ((ad.add (i * P.cellsOf e)).add j)=vs[j]?)∧Seen enc P w held e vs):=by
 obtain ⟨n,d,p,h,hw⟩:=h
 rcases DataW.trod_slice ht h with ⟨rfl,_⟩ | ⟨a,len,cap,elems,rest,m,_,rfl,hx,_,hl,hc,hlen,hel,hre,_⟩
 ·exact ⟨none,0,0,rfl,Nat.le_refl _,Nat.zero_le _,by simp,fun h=>absurd h (by omega)⟩
 ·injection hx with hd _
  subst hd
  have hr:=(hre rfl).1
  have hall:∀ i,i<len→∃ vs,vs.length=P.cellsOf e∧(∀ j,j<P.cellsOf e→w.cell? ((a.add (i * P.cellsOf e)).add j)=vs[j]?)∧Seen enc P w held e vs∧a.block<w.heap.size:=by
   intro i hi
   have hE:=hel i hi
   have hil:i<elems.length:=by omega
   rw [List.getElem?_eq_getElem hil] at hE
   simp only [Option.bind_eq_some_iff] at hE
   obtain ⟨vs,hvs,htr⟩:=hE
   have hcs:=World.cells?_some hvs
   have hb:=World.cells?_block hvs he
   rw [block_of_add] at hb
   refine ⟨vs,hcs.2.1,hcs.2.2,⟨m,elems[i].1,elems[i].2,htr,fun x hx=>hw x ?_⟩,hb⟩
   rw [DataW.weights,ht]
   exact List.mem_cons_of_mem _ (List.mem_append_left _ (weights_all (List.mem_map.2 ⟨_,List.getElem_mem hil,rfl⟩) x hx))
  refine ⟨some a,len,cap,rfl,hl,hc,?_,fun h0=>⟨a,rfl,?_,fun i hi=>?_⟩⟩
  ·have h9:=hw (((elems.map (·.1)).length+(rest.map (·.1)).length) * P.bytesOf e) (by rw [DataW.weights,ht];exact List.mem_cons_self ..)
   rw [List.length_map,List.length_map,hlen,hr,Nat.add_sub_cancel' hl] at h9
   exact h9
  ·obtain ⟨_,_,_,_,hb⟩:=hall 0 h0
   exact hb
  ·obtain ⟨vs,h1,h2,h3,_⟩:=hall i hi
   exact ⟨vs,h1,h2,h3⟩
theorem seen_ints {t e:TypeId} {k:IntKind} {cs:List Value} (ht:P.underlying t=some (.slice e)) (he:P.underlying e=some (.int k)) (hc:P.cellsOf e=1) (h:Seen enc P w held t cs) :
  ∃ (A:Option Addr) (n c:Nat) (xs:List Int),cs=[.slice A n c]∧n≤c∧c≤maxLen∧c * P.bytesOf e≤reachBytes∧Reads w w.heap.size 1 A n (xs.map (Value.int k))∧∀ x ∈ xs,(Lit.int k x).wf=true:=by
 obtain ⟨A,n,c,rfl,h1,h2,h3,h4⟩:=seen_slice ht (by omega) h
 rcases Nat.eq_zero_or_pos n with rfl | hn
 ·exact ⟨A,0,c,[],rfl,h1,h2,h3,⟨by simp,fun h=>absurd h (by omega)⟩,by simp⟩
 ·obtain ⟨ad,rfl,hb,hi⟩:=h4 hn
  have hv:∀ i,i<n→∃ a:Int,w.cell? (ad.add i)=some (.int k a)∧(Lit.int k a).wf=true:=by
   intro i hlt
   obtain ⟨vs,hl,hcell,hs⟩:=hi i hlt
   obtain ⟨a,rfl,hw⟩:=seen_int he hs
   have:=hcell 0 (by omega)
   rw [hc,Nat.mul_one,add_of_add,Nat.add_zero] at this
   exact ⟨a,this,hw⟩
  obtain ⟨f,hf⟩:=skolem_lt hv
  refine ⟨some ad,n,c,(List.range n).map f,rfl,h1,h2,h3,⟨by simp,fun _=>⟨ad,rfl,hb,fun j u hu=>?_⟩⟩,fun x hx=>?_⟩
  ·have hj:j<n:=by
    have:=(List.getElem?_eq_some_iff.1 hu).1
    simpa using this
   have hu':u=.int k (f j):=by simpa [hj] using hu.symm
   rw [(hf j hj).1,hu']
  ·obtain ⟨j,hj,rfl⟩:=List.mem_map.1 hx
   exact (hf j (List.mem_range.1 hj)).2
end
end Go.Proofs.YtikbegmodacopaaGreatDoor
namespace Go.Proofs.YtikbegmodacopaaGreatDoor
set_option maxRecDepth 100000
open Go.RowKit
section
variable {H:Type} {enc:TypeId × Value→H} {P:Program} {w:World} {held:Bool}
end
end Go.Proofs.YtikbegmodacopaaGreatDoor
