/-
  Joined and packed by program.
-/
import Derived.Test.YtikbegmodacopaaGreatDoorQ09
import Derived.Test.YtikbegmodacopaaGreatDoorQ11
namespace Go.Proofs.YtikbegmodacopaaGreatDoor
open Go.RowKit Go.PlainAid Go.Shelf
theorem rbytes_0 (w:World):Calls Tryz.prog 206 #[.string ⟨#[]⟩] w (BytesIs (none,0,11) w):=by
 go_enter Tryz.func206,Tryz.ntmps206
 go_wp2
 go_ret3
 exact ⟨_,rfl,World.ownsRow_nil _ _ _ _,Below.refl _ _⟩
set_option maxHeartbeats 1000000 in
theorem rbytes_1 (s:ByteArray) (w:World) (h0:0<s.size) (h1:bt s 0≠34):Calls Tryz.prog 206 #[.string s] w (BytesIs (none,0,11) w):=by
 have hbt:=get_bt s
 have e0:((s.size:Int) == 0)=false:=by rw [beq_eq_false_iff_ne];omega
 have h2:(bt s 0 != 34)=true:=bne_iff_ne.2 h1
 clear h1
 go_enter Tryz.func206,Tryz.ntmps206
 go_wp2
 go_ret3
 exact ⟨_,rfl,World.ownsRow_nil _ _ _ _,Below.refl _ _⟩
set_option maxRecDepth 100000 in
set_option maxHeartbeats 1000000 in
theorem rbytes_2 (s:ByteArray) (w:World) (hz:s.size≤140737488351232) (h0:0<s.size) (h1:bt s 0=34):Calls Tryz.prog 206 #[.string s] w (BytesIs (bytesAt s s.size 1) w):=by
 obtain ⟨i0,hi,hz0,hz1,hz2⟩:=info_parts bld_u8
 have hbt:=get_bt s
 have e0:((s.size:Int) == 0)=false:=by rw [beq_eq_false_iff_ne];omega
 have e00:(bt s 0 != 34)=false:=by rw [h1];rfl
 obtain ⟨X,hX⟩:∃ X,X=bytesAt s s.size 1:=⟨_,rfl⟩
 rw [← hX]
 go_enter Tryz.func206,Tryz.ntmps206
 go_wp2
 go_loopw [5,6] (fun v i wr=>∃ (pos f:Nat) (acc:List Int),i=.int .i64 pos∧pos≤s.size+6∧s.size≤pos+f∧acc.length≤pos∧Hid (X=addTo acc (bytesAt s f pos)) ∧
   wr.ownsRow w.heap.size 5 1 v acc.length (u8s acc)∧Below w.heap.size w wr) (fun _ i _=>s.size+8 - (intOf i).toNat)
 case atStart =>
  exact ⟨1,s.size,[],rfl,by omega,by omega,by simp,hide_ (by rw [hX,addTo_nil]),World.ownsRow_nil _ _ _ _,Below.refl _ _⟩
 case round =>
  obtain ⟨pos,f,acc,rfl,hp6,hpf,hal,HX,hown,hb⟩:=hrel
  have hsz:=hb.size
  obtain ⟨A0,c0,rfl,hc0,hc1⟩:=ownsRow_slice hown
  by_cases hlt:pos<s.size
  ·have hbe:=bt_eq s pos hlt
   obtain ⟨f,rfl⟩:∃ f',f=f' + 1:=⟨f - 1,by omega⟩
   by_cases h34:bn s pos=34
   ·have hcall:=fun W=>thing_shut s pos 34 W (by omega) hlt (by omega)
    have hX2:=HX.out
    rw [bytesAt,if_neg (by omega),if_pos h34] at hX2
    have HCALL:=hide_ hcall
    clear hbe h34 hcall
    by_cases hend:pos+1<s.size
    ·rw [if_pos hend] at hX2
     have HX2:=hide_ hX2
     clear hX2 hX
     go_wp2_with (go_at_call 221;refine (HCALL.out _).mono ?_)
     rintro e w1 ⟨rfl,hb1⟩
     go_wp2
     go_ret3
     rw [HX2.out]
     exact ⟨_,rfl,World.ownsRow_nil _ _ _ _,hb.trans (hb1.mono hsz)⟩
    ·rw [if_neg hend] at hX2
     have HX2:=hide_ hX2
     clear hX2 hX
     go_wp2_with (go_at_call 221;refine (HCALL.out _).mono ?_)
     rintro e w1 ⟨rfl,hb1⟩
     go_wp2
     go_ret3
     rw [HX2.out]
     refine ⟨_,rfl,?_,hb.trans (hb1.mono hsz)⟩
     have:=((one_row (r:=⟨5,1,.slice A0 acc.length c0,acc.length,u8s acc⟩) hown).below hb1).at_ (i:=0) rfl
     simpa [addTo] using this
   ·have hgood:=sayN_good s pos hlt
    have hstep:=bytesAt_step s f pos hlt h34
    have hX2:=HX.out
    rw [bytesAt,if_neg (by omega),if_neg h34] at hX2
    have hcall:=fun W=>thing_any s pos 34 W (by omega) hlt (by omega)
    obtain ⟨⟨c,b,k,er⟩,hN⟩:∃ x,sayN s pos=x:=⟨_,rfl⟩
    simp only [hN] at hgood hstep hX2 hcall
    have e9:((pos+k:Nat):Int)=(pos:Int)+(k:Int):=by omega
    simp only [e9] at hcall
    clear hbe h34 hN e9
    by_cases he:er=0
    ·subst he
     obtain ⟨k1,k6,hzl,hzb,_,_⟩:=hgood rfl
     have HS:=hide_ (show X=addTo (acc ++ sayZ s pos) (bytesAt s f (pos+k)) by rw [HX.out];exact hstep rfl acc)
     have HCALL:=hide_ hcall
     obtain ⟨Z,hZ⟩:∃ Z,Z=sayZ s pos:=⟨_,rfl⟩
     rw [← hZ] at HS hzl hzb
     clear hcall hgood hstep hX2 hX HX hZ
     go_wp2_with (go_at_call 221;refine (HCALL.out _).mono ?_;rintro e w1 ⟨T,hT,rfl,hb1⟩)
     obtain ⟨hT1,hT2⟩:=hT (by trivial)
     have hTZ:T.size=Z.length:=by rw [hT1,hzb,List.length_map]
     have HTB:=hide_ (show ∀ j,j<T.size→bt T j=Z[j]?.getD 0 from fun j hj=>by
      have hj2:j<(sayB s pos).length:=by rw [← hT1];exact hj
      rw [bt_eq T j hj,hT2 j hj2,hzb,List.getElem?_map,List.getElem?_eq_getElem hj2]
      rfl)
     have HTZ:=hide_ hTZ
     have hTs:T.size≤6:=by omega
     have hO1:=(one_row (r:=⟨5,1,.slice A0 acc.length c0,acc.length,u8s acc⟩) hown).below hb1
     have hB1:Below w.heap.size w w1:=hb.trans (hb1.mono hsz)
     obtain ⟨a,haa⟩:∃ a,a=acc.length:=⟨_,rfl⟩
     have HA:=hide_ haa
     rw [← haa] at hO1 hal ⊢
     clear hT hT1 hT2 hzb hTZ hown haa
     go_loopw [5,12] (fun v i wr=>∃ j:Nat,j≤T.size∧i=.int .i64 j∧Owns wr w.heap.size [⟨5,1,v,a+j,u8s (acc ++ Z.take j)⟩]∧Below w.heap.size w wr) (fun _ i _=>T.size - (intOf i).toNat)
     case atStart=>exact ⟨0,Nat.zero_le _,rfl,by simpa using hO1,hB1⟩
     case round =>
      obtain ⟨j,hj,rfl,hO2,hb2⟩:=hrel
      obtain ⟨A4,c4,hv4,_,_⟩:=ownsRow_slice (hO2.at_ (i:=0) rfl)
      simp only at hv4
      subst hv4
      have hsz2:=hb2.size
      by_cases hlt3:j<T.size
      ·have hbt2:=get_bt T
       have hy:=HTB.out j hlt3
       obtain ⟨y,hyy⟩:∃ y,y=Z[j]?.getD 0:=⟨_,rfl⟩
       rw [← hyy] at hy
       have HT:=hide_ (show Z.take (j+1)=Z.take j ++ [y] by rw [take_snoc Z 0 j (by rw [← HTZ.out];exact hlt3),← hyy])
       clear hyy
       go_wp2_with (at_builtin;refine wpList_append_owns _ rfl (.tmp 51) (.tmp 55) 24 rfl w.heap.size _ 0 5 1 _ (a+j) _ rfl (hO2.alloc _) (by simp;omega) i0 _ 1 Tryz.underlying24 hi hz0 hz1 hz2 rfl (by omega) rfl _ _ 1 1 _ rfl (reads_new wr 5 1 1 [.int .u8 y] rfl) (by simp [Value.oneCell']) (by simp only [maxLen];omega) (by omega) ?_;intro v6 w6 hO6 hb6 hsz6)
       go_roundw
       case rel =>
        refine ⟨j+1,by omega,by go_num,?_,(hb2.alloc (by omega) _).trans hb6⟩
        rw [HT.out,← List.append_assoc]
        simpa [u8s,Nat.add_assoc] using hO6
       case measure=>simp [intOf];omega
      ·obtain rfl:j=T.size:=by omega
       have HT:=hide_ (show Z.take T.size=Z by rw [HTZ.out];exact List.take_length)
       rw [HT.out] at hO2
       go_wp2
       go_roundw
       case rel =>
        refine ⟨pos+k,f,acc ++ Z,by go_num,by omega,by omega,by rw [List.length_append,← HA.out,← HTZ.out];rw [HTZ.out];omega,HS,?_,hb2⟩
        have:=hO2.at_ (i:=0) rfl
        simpa [HA.out,HTZ.out] using this
       case measure=>simp [intOf];omega
    ·rw [if_pos he] at hX2
     have HX2:=hide_ hX2
     have HCALL:=hide_ hcall
     have d2:(er != 0)=true:=bne_iff_ne.2 he
     clear hcall hgood hstep hX2 hX he
     go_wp2_with (go_at_call 221;refine (HCALL.out _).mono ?_)
     rintro e w1 ⟨T,_,rfl,hb1⟩
     go_wp2
     go_ret3
     rw [HX2.out]
     exact ⟨_,rfl,World.ownsRow_nil _ _ _ _,hb.trans (hb1.mono hsz)⟩
  ·have hX2:=HX.out
   rw [bytesAt_end s f pos (by omega)] at hX2
   have HX2:=hide_ hX2
   clear hX2 hX
   go_wp2
   go_ret3
   rw [HX2.out]
   exact ⟨_,rfl,World.ownsRow_nil _ _ _ _,hb⟩
theorem rbytes_any (s:ByteArray) (w:World) (hz:s.size≤140737488351232):Calls Tryz.prog 206 #[.string s] w (BytesIs (bytesN s) w):=by
 unfold bytesN
 by_cases h0:s.size=0
 ·obtain rfl:=is_empty s h0
  rw [if_pos h0]
  exact rbytes_0 w
 rw [if_neg h0]
 have hb:=bt_eq s 0 (by omega)
 by_cases h1:bn s 0≠34
 ·rw [if_pos h1]
  exact rbytes_1 s w (by omega) (by omega)
 ·rw [if_neg h1]
  exact rbytes_2 s w hz (by omega) (by omega)
end Go.Proofs.YtikbegmodacopaaGreatDoor
namespace Go.Proofs.YtikbegmodacopaaGreatDoor
open Go.RowKit Go.PlainAid Go.BigFrame
set_option linter.unusedVariables false
set_option maxRecDepth 100000
def RTokIs (s:ByteArray) (i:Nat) (x:Int × Int × Int) (w:World) (e:Ending) (w':World):Prop :=
 ∃ (k a:Int) (T:ByteArray) (p:Int),e=.returned (.tuple #[.agg #[.int .u8 k,.int .i64 a,.string T],.int .i64 p,.int .i64 x.2.2])∧(x.2.2=0→k=x.1∧a=i∧T=s.extract i x.2.1.toNat)∧(x.2.2≠0→p=x.2.1)∧Below w.heap.size w w'
theorem rtok_ok {s:ByteArray} {i:Nat} {k:Int} {q:Nat} {p:Int} {w w':World} (hb:Below w.heap.size w w'):RTokIs s i (k,(q:Int),0) w (.returned (.tuple #[.agg #[.int .u8 k,.int .i64 i,.string (s.extract i q)],.int .i64 p,.int .i64 0])) w' :=
 ⟨k,i,s.extract i q,p,rfl,fun _=>⟨rfl,rfl,rfl⟩,fun h=>absurd rfl h,hb⟩
theorem rtok_no {s:ByteArray} {i:Nat} {k' k a p er:Int} {T:ByteArray} {w w':World} (her:er≠0) (hb:Below w.heap.size w w'):RTokIs s i (k',p,er) w (.returned (.tuple #[.agg #[.int .u8 k,.int .i64 a,.string T],.int .i64 p,.int .i64 er])) w' :=
 ⟨k,a,T,p,rfl,fun h=>absurd h her,fun _=>rfl,hb⟩
theorem rtok_lit {s:ByteArray} {i e:Nat} {X:Int × Int × Int} {K p er:Int} {w w':World} (hX:X=if er≠0 then (K,p,er) else (K,(e:Int),(0:Int))) (hb:Below w.heap.size w w'):RTokIs s i X w (.returned (.tuple #[.agg #[.int .u8 K,.int .i64 i,.string (s.extract i e)],.int .i64 p,.int .i64 er])) w':=by
 by_cases h:er=0
 ·subst h
  rw [hX,if_neg (by simp)]
  exact rtok_ok hb
 ·rw [hX,if_pos h]
  exact rtok_no h hb
abbrev tokZ:Array Value:=#[.int .u8 0,.int .i64 0,.string ⟨#[]⟩]
set_option maxHeartbeats 2000000 in
theorem rliteral_any (s:ByteArray) (i:Nat) (w:World) (hz:s.size≤140737488351232) (hi:i<s.size) (hq:bn s i=34∨bn s i=39) :
  Calls Tryz.prog 190 #[.string s,.int .i64 i] w (RTokIs s i (litN s i) w):=by
 have hbt:=get_bt s
 have HBI:=hide_ (bt_eq s i hi)
 have HLE:=hide_ (fun W=>litEnd_any s i W hz hi hq)
 have HBK:=hide_ (Blk.new w 197 tokZ)
 have HB0:=hide_ ((Below.refl _ w).alloc (Nat.le_refl _) (.cells tokZ 197))
 obtain ⟨X,hX⟩:∃ X,X=litN s i:=⟨_,rfl⟩
 rw [← hX]
 cases hl:litE s i with
 | none =>
  have HE:=hide_ (show X=((if bn s i=34 then 3 else 4),(i:Int),11) by rw [hX];unfold litN;simp only [hl])
  rw [litZ_none s i hl] at HLE
  clear hX hl hq
  go_enter Tryz.func190,Tryz.ntmps190
  go_wp2_with fail
  refine (HLE.out _).mono ?_
  rintro e w2 ⟨rfl,rfl⟩
  go_wp2
  exact bodyPost_ret (v:=.tuple #[.agg #[.int .u8 0,.int .i64 0,.string ⟨#[]⟩],.int .i64 i,.int .i64 11]) (by simp [results,Tryz.results190,go_sem]) rfl (by rw [HE.out];exact rtok_no (by decide) HB0.out)
 | some e =>
  have hb:=litE_bd s i e hl
  rw [litZ_some s i e hl] at HLE
  obtain ⟨t,ht⟩:∃ t,t=s.extract i e:=⟨_,rfl⟩
  have hts:t.size=e - i:=by rw [ht,ByteArray.size_extract];omega
  have d0:decide ((e:Int)<0)=false:=decide_eq_false (by omega)
  by_cases h34:bn s i=34
  ·have d34:(bt s i == 34)=true:=by rw [HBI.out];simp;omega
   have hby:=fun W=>rbytes_any t W (by omega)
   have hpb:=bytesN_bd t
   have hXX:X=if (bytesN t).2.2≠0 then ((3:Int),(i:Int)+(bytesN t).2.1,(bytesN t).2.2) else ((3:Int),(e:Int),(0:Int)):=by
    rw [hX]
    unfold litN
    rw [hl]
    simp only [if_pos h34,← ht]
   obtain ⟨O,P,E,hBN⟩:∃ O P E,bytesN t=(O,P,E):=⟨_,_,_,rfl⟩
   rw [hBN] at hby hpb hXX
   simp only at hpb hXX
   have HBY:=hide_ hby
   have HT:=hide_ ht
   have HXX:=hide_ hXX
   have hp0:0≤P:=hpb.1
   have hp1:(i:Int)+P≤140737488351240:=by omega
   have HTI:Hid (i≤e∧e≤s.size):=hide_ (by omega)
   have hie:i≤e:=by omega
   have hes:e≤s.size:=by omega
   clear hby hXX hBN h34 hl hX hq hts hpb
   go_enter Tryz.func190,Tryz.ntmps190
   go_wp2_with fail
   refine (HLE.out _).mono ?_
   rintro e2 w2 ⟨rfl,rfl⟩
   go_wp2_with fail
   rw [← HT.out]
   refine (HBY.out _).mono ?_
   rintro e2 w2 ⟨v,rfl,_,hb2⟩
   have HBK2:=HBK.out.below hb2 (by simp)
   have hg2:=HBK2.lt
   have c0:=HBK2.cell 0
   have c1:=HBK2.cell 1
   have c2:=HBK2.cell 2
   have f0:=HBK2.frozen 0
   have f1:=HBK2.frozen 1
   have f2:=HBK2.frozen 2
   have HB2:=hide_ (HB0.out.trans (hb2.mono (by simp)))
   simp only [tokZ] at c0 c1 c2
   clear hb2 HBK2
   go_wp2
   exact bodyPost_ret (v:=.tuple #[.agg #[.int .u8 3,.int .i64 i,.string (s.extract i e)],.int .i64 (i+P),.int .i64 E]) (by simp [results,Tryz.results190,go_sem,c0,c1,c2]) rfl (rtok_lit HXX.out (((HB2.out.setCell (Nat.le_refl _) _).setCell (Nat.le_refl _) _).setCell (Nat.le_refl _) _))
  ·have d34:(bt s i == 34)=false:=by rw [HBI.out];simp;omega
   have hby:=fun W=>rrune_any t W (by omega)
   have hpb:=runeN_bd t
   have hXX:X=if (runeN t).2.2≠0 then ((4:Int),(i:Int)+(runeN t).2.1,(runeN t).2.2) else ((4:Int),(e:Int),(0:Int)):=by
    rw [hX]
    unfold litN
    rw [hl]
    simp only [if_neg h34,← ht]
   obtain ⟨O,P,E,hBN⟩:∃ O P E,runeN t=(O,P,E):=⟨_,_,_,rfl⟩
   rw [hBN] at hby hpb hXX
   simp only at hpb hXX
   have HBY:=hide_ hby
   have HT:=hide_ ht
   have HXX:=hide_ hXX
   have hp0:0≤P:=hpb.1
   have hp1:(i:Int)+P≤140737488351240:=by omega
   have HTI:Hid (i≤e∧e≤s.size):=hide_ (by omega)
   have hie:i≤e:=by omega
   have hes:e≤s.size:=by omega
   clear hby hXX hBN h34 hl hX hq hts hpb
   go_enter Tryz.func190,Tryz.ntmps190
   go_wp2_with fail
   refine (HLE.out _).mono ?_
   rintro e2 w2 ⟨rfl,rfl⟩
   go_wp2_with fail
   rw [← HT.out]
   refine (HBY.out _).mono ?_
   rintro e2 w2 ⟨rfl,hb2⟩
   have HBK2:=HBK.out.below hb2 (by simp)
   have hg2:=HBK2.lt
   have c0:=HBK2.cell 0
   have c1:=HBK2.cell 1
   have c2:=HBK2.cell 2
   have f0:=HBK2.frozen 0
   have f1:=HBK2.frozen 1
   have f2:=HBK2.frozen 2
   have HB2:=hide_ (HB0.out.trans (hb2.mono (by simp)))
   simp only [tokZ] at c0 c1 c2
   clear hb2 HBK2
   go_wp2
   exact bodyPost_ret (v:=.tuple #[.agg #[.int .u8 4,.int .i64 i,.string (s.extract i e)],.int .i64 (i+P),.int .i64 E]) (by simp [results,Tryz.results190,go_sem,c0,c1,c2]) rfl (rtok_lit HXX.out (((HB2.out.setCell (Nat.le_refl _) _).setCell (Nat.le_refl _) _).setCell (Nat.le_refl _) _))
set_option maxHeartbeats 4000000 in
theorem rtoken_any (s:ByteArray) (i:Nat) (A:Option Addr) (n c B:Nat) (sg:List ByteArray) (w:World) (hz:s.size≤1048576) (hi:i<s.size) (hn:n≤1048576) (hsz:∀ g ∈ sg,g.size≤140737488351232) (hr:Reads w B 1 A n (sg.map Value.string)) (hB:B≤w.heap.size) :
  Calls Tryz.prog 178 #[.string s,.int .i64 i,.slice A n c] w (RTokIs s i (tokN s sg i) w):=by
 have hbt:=get_bt s
 have HBI:=hide_ (bt_eq s i hi)
 have HBK:=hide_ (Blk.new w 197 tokZ)
 have HB0:=hide_ ((Below.refl _ w).alloc (Nat.le_refl _) (.cells tokZ 197))
 obtain ⟨X,hX⟩:∃ X,X=tokN s sg i:=⟨_,rfl⟩
 rw [← hX]
 have hX':=hX
 unfold tokN at hX'
 have hg0:w.heap.size<(w.alloc (.cells tokZ 197)).heap.size:=by simp
 by_cases h10:bn s i=10
 ·rw [if_pos h10] at hX'
  have HX:=hide_ (show X=(6,((i+1:Nat):Int),0) by rw [hX'];rfl)
  have d10:(bt s i == 10)=true:=by rw [HBI.out];simp;omega
  clear hX hX' h10 hr hsz
  go_enter Tryz.func178,Tryz.ntmps178
  go_wp2
  exact bodyPost_ret (v:=.tuple #[.agg #[.int .u8 6,.int .i64 i,.string (s.extract i (i+1))],.int .i64 0,.int .i64 0]) (by simp [results,Tryz.results178,go_sem]) rfl (by rw [HX.out];exact rtok_ok ((Below.refl _ w).alloc (Nat.le_refl _) _))
 rw [if_neg h10] at hX'
 have d10:(bt s i == 10)=false:=by rw [HBI.out];simp;omega
 have HDG:=hide_ (fun W=>rdigit_any (bt s i) W)
 by_cases hdg:48≤bn s i∧bn s i≤57
 ·have hlow:=cutR_low s i (by omega)
  rw [if_neg (by rw [hlow];unfold letR;simp;omega),if_pos hdg] at hX'
  have HX:=hide_ hX'
  rw [show digR (bt s i)=true by rw [HBI.out];unfold digR;simp;omega] at HDG
  have HFE:=hide_ (fun W=>figureEnd_any s i W (by omega) hi)
  have hfb:=figE_bd s i hi
  obtain ⟨q,hq⟩:∃ q,q=figE s i:=⟨_,rfl⟩
  rw [← hq] at HX HFE hfb
  have hiq:i≤q:=by omega
  have hqs:q≤s.size:=hfb.2
  have hq0:(0:Int)≤(q:Int):=by omega
  have c0:=HBK.out.cell 0
  have c1:=HBK.out.cell 1
  have c2:=HBK.out.cell 2
  have f0:=HBK.out.frozen 0
  have f1:=HBK.out.frozen 1
  have f2:=HBK.out.frozen 2
  simp only [tokZ] at c0 c1 c2 f0 f1 f2 hg0
  clear hX hX' h10 hr hsz hdg hlow hq hfb
  go_enter Tryz.func178,Tryz.ntmps178
  go_wp2_with fail
  refine (HDG.out _).mono ?_
  rintro e2 w2 ⟨rfl,rfl⟩
  go_wp2_with fail
  refine (HFE.out _).mono ?_
  rintro e2 w2 ⟨rfl,rfl⟩
  go_wp2
  exact bodyPost_ret (v:=.tuple #[.agg #[.int .u8 2,.int .i64 i,.string (s.extract i q)],.int .i64 0,.int .i64 0]) (by simp [results,Tryz.results178,go_sem]) rfl (by rw [HX.out];exact rtok_ok ((Below.refl _ w).alloc (Nat.le_refl _) _))
 have hdc:digR (cutR s i)=false:=by rw [digR_cut,decide_eq_false hdg]
 rw [show digR (bt s i)=false by rw [HBI.out];unfold digR;simp;omega] at HDG
 have HNE:=hide_ (fun W=>nameEnd_any s i W (by omega) (by omega))
 by_cases hnm:namR (cutR s i)=true
 ·rw [if_pos (by unfold namR at hnm;rw [hdc] at hnm;simpa using hnm)] at hX'
  have HX:=hide_ hX'
  have hlt:=nameE_lt s i hi hnm
  have hbd:=nameE_bd s i (by omega)
  obtain ⟨q,hq⟩:∃ q,q=nameE s i:=⟨_,rfl⟩
  rw [← hq] at HX HNE hlt hbd
  have hiq:i≤q:=by omega
  have hqs:q≤s.size:=hbd.2
  have c0:=HBK.out.cell 0
  have c1:=HBK.out.cell 1
  have c2:=HBK.out.cell 2
  have f0:=HBK.out.frozen 0
  have f1:=HBK.out.frozen 1
  have f2:=HBK.out.frozen 2
  simp only [tokZ] at c0 c1 c2 f0 f1 f2 hg0
  clear hX hX' h10 hr hsz hdg hdc hnm hq hbd
  go_enter Tryz.func178,Tryz.ntmps178
  go_wp2_with fail
  refine (HDG.out _).mono ?_
  rintro e2 w2 ⟨rfl,rfl⟩
  go_wp2_with fail
  refine (HNE.out _).mono ?_
  rintro e2 w2 ⟨rfl,rfl⟩
  go_wp2
  exact bodyPost_ret (v:=.tuple #[.agg #[.int .u8 1,.int .i64 i,.string (s.extract i q)],.int .i64 0,.int .i64 0]) (by simp [results,Tryz.results178,go_sem]) rfl (by rw [HX.out];exact rtok_ok ((Below.refl _ w).alloc (Nat.le_refl _) _))
 rw [Bool.not_eq_true] at hnm
 rw [nameE_stop s i hnm] at HNE
 rw [if_neg (by unfold namR at hnm;rw [hdc] at hnm;simpa using hnm),if_neg hdg] at hX'
 have dii:decide ((i:Int)<(i:Int))=false:=by simp
 by_cases hq:bn s i=34∨bn s i=39
 ·rw [if_pos hq] at hX'
  have HX:=hide_ hX'
  have HL:=hide_ (fun W=>rliteral_any s i W (by omega) hi hq)
  have hbq:bt s i=34∨bt s i=39:=by rw [HBI.out];omega
  clear hX hX' h10 hr hsz hdg hdc hnm hq d10
  have HDG2:=HDG
  rcases hbq with h | h
  all_goals
   have e34:(bt s i == 34)=decide (bt s i=34):=by rw [Bool.eq_iff_iff];simp
   have e39:(bt s i == 39)=decide (bt s i=39):=by rw [Bool.eq_iff_iff];simp
   have e10:(bt s i == 10)=false:=by rw [h];rfl
   rw [h] at e34 e39 e10 HDG
   clear e34 e39 HDG2
   go_enter Tryz.func178,Tryz.ntmps178
   go_wp2_with fail
   refine (HDG.out _).mono ?_
   rintro e2 w2 ⟨rfl,rfl⟩
   go_wp2_with fail
   refine (HNE.out _).mono ?_
   rintro e2 w2 ⟨rfl,rfl⟩
   go_wp2_with fail
   refine (HL.out _).mono ?_
   rintro e2 w2 ⟨k,a,T,p,rfl,h1,h2,hb2⟩
   have HH:=hide_ (And.intro h1 h2)
   clear h1 h2
   have HBK2:=HBK.out.below hb2 (by simp)
   have hg2:=HBK2.lt
   have c0:=HBK2.cell 0
   have c1:=HBK2.cell 1
   have c2:=HBK2.cell 2
   have f0:=HBK2.frozen 0
   have f1:=HBK2.frozen 1
   have f2:=HBK2.frozen 2
   have HB2:=hide_ (HB0.out.trans (hb2.mono (by simp)))
   simp only [tokZ] at c0 c1 c2
   clear hb2 HBK2
   go_wp2
   exact bodyPost_ret (v:=.tuple #[.agg #[.int .u8 k,.int .i64 a,.string T],.int .i64 p,.int .i64 (litN s i).2.2]) (by simp [results,Tryz.results178,go_sem,c0,c1,c2]) rfl (by rw [HX.out];exact ⟨k,a,T,p,rfl,HH.out.1,HH.out.2,(((HB2.out.setCell (Nat.le_refl _) _).setCell (Nat.le_refl _) _).setCell (Nat.le_refl _) _)⟩)
 rw [if_neg hq] at hX'
 have e34:(bt s i == 34)=false:=by rw [HBI.out];simp;omega
 have e39:(bt s i == 39)=false:=by rw [HBI.out];simp;omega
 have HSA:=hide_ (show ∀ W:World,Below w.heap.size w W→Calls Tryz.prog 191 #[.string s,.int .i64 i,.slice A n c] W fun e w'=>e=.returned (.string (signN s i sg))∧Drew W w' from fun W hW =>
  signAt_any s i A n c B sg W hz hi hn hsz (hr.below (hW.mono hB)) (Nat.le_trans hB hW.size))
 have hfit:=signN_fits s i sg
 obtain ⟨g,hg⟩:∃ g,g=signN s i sg:=⟨_,rfl⟩
 rw [← hg] at hX' hfit HSA
 by_cases hgs:0<g.size
 ·rw [if_pos hgs] at hX'
  obtain ⟨f1',f2'⟩:=hfit hgs
  have HX:=hide_ (show X=(5,((i+g.size:Nat):Int),0) by rw [hX'];rfl)
  have HG:=hide_ f2'
  have dgs:=not_empty g hgs
  clear hX hX' h10 hr hsz hdg hdc hnm hq hfit f2' f1' hg hgs
  go_enter Tryz.func178,Tryz.ntmps178
  go_wp2_with fail
  refine (HDG.out _).mono ?_
  rintro e2 w2 ⟨rfl,rfl⟩
  go_wp2_with fail
  refine (HNE.out _).mono ?_
  rintro e2 w2 ⟨rfl,rfl⟩
  go_wp2_with fail
  refine (HSA.out _ HB0.out).mono ?_
  rintro e2 w2 ⟨rfl,hd⟩
  have hb2:=hd.below (w.alloc (.cells tokZ 197)).heap.size
  clear hd
  have HBK2:=HBK.out.below hb2 (by simp)
  have hg2:=HBK2.lt
  have c0:=HBK2.cell 0
  have c1:=HBK2.cell 1
  have c2:=HBK2.cell 2
  have f0:=HBK2.frozen 0
  have f1:=HBK2.frozen 1
  have f2:=HBK2.frozen 2
  have HB2:=hide_ (HB0.out.trans (hb2.mono (by simp)))
  simp only [tokZ] at c0 c1 c2
  clear hb2 HBK2
  go_wp2
  exact bodyPost_ret (v:=.tuple #[.agg #[.int .u8 5,.int .i64 i,.string g],.int .i64 0,.int .i64 0]) (by simp [results,Tryz.results178,go_sem,c0,c1,c2]) rfl (by rw [HX.out,show g=s.extract i (i+g.size) from HG.out.symm];rw [show (s.extract i (i+g.size)).size=g.size by rw [HG.out]];exact rtok_ok (((HB2.out.setCell (Nat.le_refl _) _).setCell (Nat.le_refl _) _).setCell (Nat.le_refl _) _))
 ·rw [if_neg hgs] at hX'
  have hg0':g=⟨#[]⟩:=is_empty g (by omega)
  subst hg0'
  by_cases hl:lost s i
  ·have hneg:cutR s i<0:=by unfold cutR;rw [if_pos hl];omega
   rw [if_pos hneg] at hX'
   have HX:=hide_ hX'
   have HRA:=hide_ (fun W=>runeAt_lost s i W (by omega) hi hl)
   clear hX hX' h10 hr hsz hdg hdc hnm hq hfit hg hgs hl hneg
   go_enter Tryz.func178,Tryz.ntmps178
   go_wp2_with fail
   refine (HDG.out _).mono ?_
   rintro e2 w2 ⟨rfl,rfl⟩
   go_wp2_with fail
   refine (HNE.out _).mono ?_
   rintro e2 w2 ⟨rfl,rfl⟩
   go_wp2_with fail
   refine (HSA.out _ HB0.out).mono ?_
   rintro e2 w2 ⟨rfl,hd⟩
   have hb2:=hd.below (w.alloc (.cells tokZ 197)).heap.size
   clear hd
   have HBK2:=HBK.out.below hb2 (by simp)
   have hg2:=HBK2.lt
   have c0:=HBK2.cell 0
   have c1:=HBK2.cell 1
   have c2:=HBK2.cell 2
   have f0:=HBK2.frozen 0
   have f1:=HBK2.frozen 1
   have f2:=HBK2.frozen 2
   have HB2:=hide_ (HB0.out.trans (hb2.mono (by simp)))
   simp only [tokZ] at c0 c1 c2
   clear hb2 HBK2
   go_wp2_with fail
   refine (HRA.out _).mono ?_
   rintro e2 w3 ⟨rfl,rfl⟩
   go_wp2
   exact bodyPost_ret (v:=.tuple #[.agg #[.int .u8 0,.int .i64 0,.string ⟨#[]⟩],.int .i64 i,.int .i64 13]) (by simp [results,Tryz.results178,go_sem,c0,c1,c2]) rfl (by rw [HX.out];exact rtok_no (by decide) (((HB2.out.setCell (Nat.le_refl _) _).setCell (Nat.le_refl _) _).setCell (Nat.le_refl _) _))
  ·have hneg:¬ cutR s i<0:=by unfold cutR;rw [if_neg hl];omega
   rw [if_neg hneg] at hX'
   have HX:=hide_ hX'
   have HRA:=hide_ (fun W=>runeAt_found s i W (by omega) hi hl)
   have hpos:=cutN_pos s i
   obtain ⟨r,hr'⟩:∃ r,r=cutR s i:=⟨_,rfl⟩
   obtain ⟨k,hk⟩:∃ k,k=cutN s i:=⟨_,rfl⟩
   rw [← hr',← hk] at HRA
   rw [← hk] at hpos
   have hk0:((k:Int) == 0)=false:=by simp;omega
   clear hX hX' h10 hr hsz hdg hdc hnm hq hfit hg hgs hl hneg hr' hk
   go_enter Tryz.func178,Tryz.ntmps178
   go_wp2_with fail
   refine (HDG.out _).mono ?_
   rintro e2 w2 ⟨rfl,rfl⟩
   go_wp2_with fail
   refine (HNE.out _).mono ?_
   rintro e2 w2 ⟨rfl,rfl⟩
   go_wp2_with fail
   refine (HSA.out _ HB0.out).mono ?_
   rintro e2 w2 ⟨rfl,hd⟩
   have hb2:=hd.below (w.alloc (.cells tokZ 197)).heap.size
   clear hd
   have HBK2:=HBK.out.below hb2 (by simp)
   have hg2:=HBK2.lt
   have c0:=HBK2.cell 0
   have c1:=HBK2.cell 1
   have c2:=HBK2.cell 2
   have f0:=HBK2.frozen 0
   have f1:=HBK2.frozen 1
   have f2:=HBK2.frozen 2
   have HB2:=hide_ (HB0.out.trans (hb2.mono (by simp)))
   simp only [tokZ] at c0 c1 c2
   clear hb2 HBK2
   go_wp2_with fail
   refine (HRA.out _).mono ?_
   rintro e2 w3 ⟨rfl,rfl⟩
   go_wp2
   exact bodyPost_ret (v:=.tuple #[.agg #[.int .u8 0,.int .i64 0,.string ⟨#[]⟩],.int .i64 i,.int .i64 10]) (by simp [results,Tryz.results178,go_sem,c0,c1,c2]) rfl (by rw [HX.out];exact rtok_no (by decide) (((HB2.out.setCell (Nat.le_refl _) _).setCell (Nat.le_refl _) _).setCell (Nat.le_refl _) _))
end Go.Proofs.YtikbegmodacopaaGreatDoor
namespace Go.Proofs.YtikbegmodacopaaGreatDoor
open Go.RowKit Go.PlainAid Go.BigFrame
set_option linter.unusedVariables false
set_option maxRecDepth 100000
set_option maxHeartbeats 4000000 in
theorem rtokens_any (s:ByteArray) (A:Option Addr) (n c B:Nat) (sg:List ByteArray) (w:World) (hz:s.size≤140737488351232) (hn:n≤140737488351232) (hsz:∀ g ∈ sg,g.size≤140737488351232) (hr:Reads w B 1 A n (sg.map Value.string)) (hB:B≤w.heap.size) :
  Calls Tryz.prog 159 #[.string s,.slice A n c] w (ToksIs s (toksN s sg) w):=by
 have hlen:sg.length=n:=by have:=hr.1;simpa using this
 have HF:=hide_ (SignsMay_any A n c B sg w hn hsz hr hB)
 unfold toksN
 cases hok:signsOk sg with
 | false =>
  rw [if_pos rfl]
  rw [hok] at HF
  clear hr hlen hsz
  go_enter Tryz.func159,Tryz.ntmps159
  go_wp2_with fail
  refine HF.out.mono ?_
  rintro e w2 ⟨rfl,hd⟩
  have HB:=hide_ (hd.below w.heap.size)
  clear hd
  go_wp2
  go_ret3
  exact ⟨_,rfl,World.ownsRow_nil _ _ _ _,HB.out⟩
 | true =>
 rw [if_neg (by decide)]
 rw [hok] at HF
 have hn64:n≤64:=by
  rcases Nat.lt_or_ge 64 n with h | h
  ·have:=signsOk_long sg (by omega)
   rw [hok] at this
   cases this
  ·exact h
 clear hok hn
 by_cases hbig:524288<s.size
 ·rw [if_pos hbig]
  have d0:decide (524288<(s.size:Int))=true:=decide_eq_true (by omega)
  clear hbig hr hlen hsz
  go_enter Tryz.func159,Tryz.ntmps159
  go_wp2_with fail
  refine HF.out.mono ?_
  rintro e w2 ⟨rfl,hd⟩
  have HB:=hide_ (hd.below w.heap.size)
  clear hd
  go_wp2
  go_ret3
  exact ⟨_,rfl,World.ownsRow_nil _ _ _ _,HB.out⟩
 rw [if_neg hbig]
 have hz2:s.size≤524288:=by omega
 have d0:decide (524288<(s.size:Int))=false:=decide_eq_false (by omega)
 obtain ⟨i0,hi0,hz0,hz1,hz2'⟩:=info_parts token_info
 obtain ⟨X,hX⟩:∃ X,X=toksAt s sg 0:=⟨_,rfl⟩
 rw [← hX]
 have hp0:=pasE_bd s s.size 0 (by omega) (Nat.zero_le _)
 have HX:=hide_ (show X=toksAt s sg (pasE s 0) by rw [hX];exact hp0.2.2.2 sg)
 have HPA:=hide_ (fun q (hq:q≤s.size) W=>passed_any s q W (by omega) hq)
 have HP0:=hide_ hp0.2.2.1
 have HTOK:=hide_ (show ∀ (m:Nat) (W:World),m<s.size→Below w.heap.size w W→Calls Tryz.prog 178 #[.string s,.int .i64 m,.slice A n c] W (RTokIs s m (tokN s sg m) W) from fun m W hm hW =>
  rtoken_any s m A n c B sg W (by omega) hm (by omega) hsz (hr.below (hW.mono hB)) (Nat.le_trans hB hW.size))
 obtain ⟨m0,hm0⟩:∃ m0,m0=pasE s 0:=⟨_,rfl⟩
 have hm0s:m0≤s.size:=by rw [hm0];exact hp0.2.1
 have HPB:=hide_ (HPA.out 0 (Nat.zero_le _))
 rw [← hm0] at HX HP0 HPB
 clear hX hr hlen hbig hz hsz hp0 hm0
 go_enter Tryz.func159,Tryz.ntmps159
 go_wp2_with fail
 refine HF.out.mono ?_
 rintro e w2 ⟨rfl,hd⟩
 have HB2:=hide_ (hd.below w.heap.size)
 clear hd HF
 go_wp2_with fail
 refine (HPB.out _).mono ?_
 rintro e w3 ⟨rfl,rfl⟩
 clear HPB
 go_wp2_with fail
 go_loopw [7,8] (fun v k wr=>∃ (m:Nat) (acc:List Tk),k=.int .i64 m∧m≤s.size∧acc.length≤m∧Hid (m<s.size→bn s m≠35∧¬ (bn s m=9∨bn s m=13∨bn s m=32))∧Hid (X=addTk acc (toksAt s sg m))∧wr.ownsRow w.heap.size 197 3 v acc.length (tkCells s acc)∧Below w.heap.size w wr) (fun _ k _=>s.size - (intOf k).toNat)
 case atStart=>exact ⟨m0,[],rfl,hm0s,Nat.zero_le _,HP0,hide_ (by rw [addTk_nil];exact HX.out),World.ownsRow_nil _ _ _ _,HB2.out⟩
 case round =>
  clear HX HB2 HP0
  obtain ⟨m,acc,rfl,hm,hacc,HNB,HX,hown,hb⟩:=hrel
  obtain ⟨A0,c0,rfl,hc0,hc1⟩:=ownsRow_slice hown
  have HB:=hide_ hb
  have HSZ:=hide_ hb.size
  have HOWN:=hide_ hown
  clear hb hown
  by_cases hlt:m<s.size
  ·have HT:=hide_ (HTOK.out m wr hlt HB.out)
   obtain ⟨K,E,ER,hT⟩:∃ K E ER,tokN s sg m=(K,E,ER):=⟨_,_,_,rfl⟩
   obtain ⟨h35,hbl⟩:=HNB.out hlt
   have hend:=tokN_end s sg m hlt
   rw [hT] at HT
   by_cases her:ER=0
   ·subst her
    rw [hT] at hend
    simp only at hend
    have hend2:=hend trivial
    obtain ⟨q,rfl⟩:∃ q:Nat,E=q:=⟨E.toNat,by omega⟩
    have hmq:m<q:=by omega
    have hqs:q≤s.size:=by omega
    have hpq:=pasE_bd s s.size q (by omega) hqs
    have HX2:=hide_ (show X=addTk (acc ++ [(K,m,q)]) (toksAt s sg (pasE s q)) by rw [HX.out,toksAt_tok s sg m q K hlt hbl h35 hT,addTk_add,hpq.2.2.2 sg])
    have HPB:=hide_ (HPA.out q hqs)
    have HNB2:=hide_ hpq.2.2.1
    obtain ⟨z,hz9⟩:∃ z,z=pasE s q:=⟨_,rfl⟩
    have hz1':q≤z:=by rw [hz9];exact hpq.1
    have hz2'':z≤s.size:=by rw [hz9];exact hpq.2.1
    rw [← hz9] at HX2 HPB HNB2
    clear HX hbl hT hend hend2 h35 hpq hz9 HNB
    go_wp2_with fail
    refine HT.out.mono ?_
    rintro e w3 ⟨k,a,T,p,rfl,h1,_,hb3⟩
    obtain ⟨rfl,rfl,hTT⟩:=h1 rfl
    have hTs:T.size=q - m:=by rw [hTT,ByteArray.size_extract];simp;omega
    obtain ⟨d,hd⟩:∃ d,q=m+d:=⟨q - m,by omega⟩
    have hTd:T.size=d:=by omega
    have HTT:=hide_ (show T=s.extract m q from hTT)
    have HTD:=hide_ hTd
    have HO:=hide_ ((one_row (r:=⟨197,3,.slice A0 acc.length c0,acc.length,tkCells s acc⟩) HOWN.out).below hb3)
    have HB3:=hide_ (HB.out.trans (hb3.mono HSZ.out))
    have HDQ:=hide_ hd
    have hdle:d≤524288:=by omega
    clear hb3 h1 hTT hTs hTd hd
    have HO4:=hide_ (HO.out.box 197 #[.int .u8 k,.int .i64 m,.string T] (by have:=HB3.out.size;omega) (show 3≤maxLen by unfold maxLen;decide))
    go_wp2_with (at_builtin;refine wpList_append_owns _ rfl (.tmp 36) (.tmp 38) 192 rfl w.heap.size _ 0 197 3 (.slice A0 acc.length c0) acc.length (tkCells s acc) rfl (HO4.out.alloc _) (by have:=HB3.out.size;simp;omega) i0 _ 32 Tryz.underlying192 hi0 hz0 hz1 hz2' rfl (by omega) rfl _ _ 1 1 [.int .u8 k,.int .i64 m,.string T] rfl (reads_at (w3.alloc (.cells #[.int .u8 k,.int .i64 m,.string T] 197)) 197 3 1 [.int .u8 k,.int .i64 m,.string T] rfl (w3.heap.size+1) (by simp)) (by simp [Value.oneCell']) (by simp only [maxLen];omega) (by omega) ?_)
    intro v1 w4 hO1 hb1 hsz1
    have ck:w4.cell? ⟨w3.heap.size,2,none⟩=some (.string T):=hO1.cell (i:=1) rfl rfl
    have HB4:=hide_ (((HB3.out.alloc HB3.out.size _).alloc (by have:=HB3.out.size;simp;omega) _).trans hb1)
    have HO5:=hide_ (hO1.at_ (i:=0) rfl)
    have htd:=HTD.out
    have hqd:q=m+d:=HDQ.out
    subst hqd
    have hqi:(((m+d:Nat):Int))=(m:Int)+d:=by omega
    clear hO1 hb1 hsz1 hqi
    simp only [Int.natCast_add] at HPB
    go_wp2_with fail
    refine (HPB.out _).mono ?_
    rintro e w5 ⟨rfl,rfl⟩
    go_wp2
    go_roundw
    case rel=>exact ⟨z,acc ++ [(k,m,m+d)],rfl,by omega,by simp;omega,HNB2,HX2,by rw [tkCells_snoc,List.length_append,← HTT.out];exact HO5.out,HB4.out⟩
    case measure=>simp [intOf];omega
   ·have HX2:=hide_ (show X=(none,E,ER) by rw [HX.out,toksAt_bad s sg m hlt hbl h35 (by rw [hT];exact her),hT];rfl)
    have d2:(ER != 0)=true:=bne_iff_ne.2 her
    have HER:=hide_ her
    clear HX hbl hT hend h35 her
    go_wp2_with fail
    refine HT.out.mono ?_
    rintro e w3 ⟨k,a,T,p,rfl,_,h2,hb3⟩
    have hpe:p=E:=h2 HER.out
    subst hpe
    have HB3:=hide_ (HB.out.trans (hb3.mono HSZ.out))
    clear hb3 h2
    go_wp2
    go_ret3
    rw [HX2.out]
    exact ⟨_,rfl,World.ownsRow_nil _ _ _ _,HB3.out.alloc HB3.out.size _⟩
  ·have HX2:=hide_ (show X=(some acc,0,0) by rw [HX.out,toksAt_ge s sg m (by omega)];unfold addTk;simp)
   clear HX
   go_wp2
   go_ret3
   rw [HX2.out]
   exact ⟨_,rfl,HOWN.out,HB.out⟩
end Go.Proofs.YtikbegmodacopaaGreatDoor
namespace Go.Proofs.YtikbegmodacopaaGreatDoor
set_option maxRecDepth 100000
open Go.RowKit Go.PlainAid Go.BigFrame
set_option linter.unusedSimpArgs false
set_option linter.unusedVariables false
theorem str_beq (x y:ByteArray):(x.toList == y.toList)=decide (x=y):=by
 rw [ByteArray.toList_eq,ByteArray.toList_eq]
 by_cases h:x=y
 ·subst h;simp
 ·rw [decide_eq_false h]
  apply Bool.eq_false_iff.2
  intro h2
  exact h (ByteArray.ext (Array.toList_inj.1 (by simpa using h2)))
def nameL (s:ByteArray):List Tk→Bool
 | [(k,a,b)]=>decide (k=1) && decide (s.extract a b=s)
 | _=>false
def nameB (s:ByteArray):Bool:=decide ((toksN s []).2.2=0) && nameL s ((toksN s []).1.getD [])
theorem nameL_len {s:ByteArray} {l:List Tk} (h:l.length≠1):nameL s l=false:=by
 match l,h with
 | [],_=>rfl
 | [_],h=>exact absurd rfl h
 | _ :: _ :: _,_=>rfl
theorem tk1_cells {w:World} {B:Nat} {v:Value} {s:ByteArray} {K:Int} {a b:Nat} (h:w.ownsRow B 197 3 v 1 (tkCells s [(K,a,b)])):∃ g c,v=.slice (some ⟨g,0,none⟩) 1 c∧w.cell? ⟨g,0,none⟩=some (.int .u8 K)∧w.cell? ⟨g,2,none⟩=some (.string (s.extract a b))∧g<w.heap.size:=by
 obtain ⟨g,c,hv,_,hlt⟩:=h.form (by omega)
 subst hv
 exact ⟨g,c,rfl,h.cells (g:=g) rfl 0 _ rfl,h.cells (g:=g) rfl 2 _ rfl,hlt⟩
set_option maxHeartbeats 2000000 in
theorem isName_any (s:ByteArray) (w:World) (hz:s.size≤140737488351232):Calls Tryz.prog 152 #[.string s] w fun e w'=>e=.returned (.bool (nameB s))∧Below w.heap.size w w':=by
 have HT:=hide_ (tokens_any s none 0 0 0 [] w hz (by omega) (Nat.le_refl _) Reads.none_ (Nat.zero_le _))
 unfold nameB
 obtain ⟨l,hl⟩:∃ l,l=(toksN s []).1.getD []:=⟨_,rfl⟩
 obtain ⟨at_,hat⟩:∃ a,a=(toksN s []).2.1:=⟨_,rfl⟩
 obtain ⟨er,her⟩:∃ a,a=(toksN s []).2.2:=⟨_,rfl⟩
 unfold ToksIs at HT
 rw [← hl,← hat,← her] at HT
 rw [← hl,← her]
 clear hl hat her hz
 by_cases he:er=0
 ·subst he
  by_cases hn:l.length=1
  ·obtain ⟨⟨K,a,b⟩,rfl⟩:∃ t,l=[t]:=List.length_eq_one_iff.1 hn
   clear hn
   rw [show (decide ((0:Int)=0) && nameL s [(K,a,b)])=(decide (K=1) && decide (s.extract a b=s)) by simp [nameL]]
   obtain ⟨x,hx⟩:∃ x,x=s.extract a b:=⟨_,rfl⟩
   have HX:=hide_ hx
   rw [← hx]
   clear hx
   go_enter Tryz.func152,Tryz.ntmps152
   go_wp2_with fail
   refine HT.out.mono ?_
   rintro e w1 ⟨v,rfl,hO,hb⟩
   obtain ⟨g,c,rfl,c0,c2,hg⟩:=tk1_cells hO
   rw [← HX.out] at c2
   have HB:=hide_ hb
   clear hb hO
   by_cases hk:K=1
   ·subst hk
    go_wp2
    go_ret
    exact ⟨by simp [str_beq],HB.out⟩
   ·have hkb:(K == 1)=false:=by simpa using hk
    go_wp2
    go_ret
    exact ⟨by simp [hk],HB.out⟩
  ·rw [nameL_len hn,Bool.and_false]
   have hnb:(((l.length:Nat):Int) == 1)=false:=by simp;omega
   go_enter Tryz.func152,Tryz.ntmps152
   go_wp2_with fail
   refine HT.out.mono ?_
   rintro e w1 ⟨v,rfl,hO,hb⟩
   obtain ⟨A,c,rfl,_,_⟩:=ownsRow_slice hO
   have HB:=hide_ hb
   clear hb hO
   have hnb2:(l.length == 1)=false:=by simpa using hn
   go_wp2
   go_ret
   exact ⟨rfl,HB.out⟩
 ·rw [decide_eq_false he,Bool.false_and]
  have heb:(er == 0)=false:=by simpa using he
  go_enter Tryz.func152,Tryz.ntmps152
  go_wp2_with fail
  refine HT.out.mono ?_
  rintro e w1 ⟨v,rfl,hO,hb⟩
  have HB:=hide_ hb
  clear hb hO
  go_wp2
  go_ret
  exact ⟨rfl,HB.out⟩
set_option maxHeartbeats 2000000 in
theorem Named_any (s:ByteArray) (w:World) (hz:s.size≤140737488351232):Calls Tryz.prog 121 #[.string s] w fun e w'=>e=.returned (.bool (nameB s))∧Below w.heap.size w w':=by
 have HT:=hide_ (rtokens_any s none 0 0 0 [] w hz (by omega) (by simp) Reads.none_ (Nat.zero_le _))
 unfold nameB
 obtain ⟨l,hl⟩:∃ l,l=(toksN s []).1.getD []:=⟨_,rfl⟩
 obtain ⟨at_,hat⟩:∃ a,a=(toksN s []).2.1:=⟨_,rfl⟩
 obtain ⟨er,her⟩:∃ a,a=(toksN s []).2.2:=⟨_,rfl⟩
 unfold ToksIs at HT
 rw [← hl,← hat,← her] at HT
 rw [← hl,← her]
 clear hl hat her hz
 by_cases he:er=0
 ·subst he
  by_cases hn:l.length=1
  ·obtain ⟨⟨K,a,b⟩,rfl⟩:∃ t,l=[t]:=List.length_eq_one_iff.1 hn
   clear hn
   rw [show (decide ((0:Int)=0) && nameL s [(K,a,b)])=(decide (K=1) && decide (s.extract a b=s)) by simp [nameL]]
   obtain ⟨x,hx⟩:∃ x,x=s.extract a b:=⟨_,rfl⟩
   have HX:=hide_ hx
   rw [← hx]
   clear hx
   go_enter Tryz.func121,Tryz.ntmps121
   go_wp2_with fail
   refine HT.out.mono ?_
   rintro e w1 ⟨v,rfl,hO,hb⟩
   obtain ⟨g,c,rfl,c0,c2,hg⟩:=tk1_cells hO
   rw [← HX.out] at c2
   have HB:=hide_ hb
   clear hb hO
   by_cases hk:K=1
   ·subst hk
    go_wp2
    go_ret
    exact ⟨by simp [str_beq],HB.out⟩
   ·have hkb:(K == 1)=false:=by simpa using hk
    go_wp2
    go_ret
    exact ⟨by simp [hk],HB.out⟩
  ·rw [nameL_len hn,Bool.and_false]
   have hnb:(((l.length:Nat):Int) == 1)=false:=by simp;omega
   go_enter Tryz.func121,Tryz.ntmps121
   go_wp2_with fail
   refine HT.out.mono ?_
   rintro e w1 ⟨v,rfl,hO,hb⟩
   obtain ⟨A,c,rfl,_,_⟩:=ownsRow_slice hO
   have HB:=hide_ hb
   clear hb hO
   have hnb2:(l.length == 1)=false:=by simpa using hn
   go_wp2
   go_ret
   exact ⟨rfl,HB.out⟩
 ·rw [decide_eq_false he,Bool.false_and]
  have heb:(er == 0)=false:=by simpa using he
  go_enter Tryz.func121,Tryz.ntmps121
  go_wp2_with fail
  refine HT.out.mono ?_
  rintro e w1 ⟨v,rfl,hO,hb⟩
  have HB:=hide_ hb
  clear hb hO
  go_wp2
  go_ret
  exact ⟨rfl,HB.out⟩
end Go.Proofs.YtikbegmodacopaaGreatDoor
