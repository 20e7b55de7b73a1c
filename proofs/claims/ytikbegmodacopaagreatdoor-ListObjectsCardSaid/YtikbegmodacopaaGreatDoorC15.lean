/-
  Joined and packed by program.
-/
import Derived.Test.YtikbegmodacopaaGreatDoorC14
import Derived.WalkSpells
import Derived.Test.YtikbegmodacopaaGreatDoorC09
namespace Go.Proofs.YtikbegmodacopaaGreatDoor
open Go.RowKit Go.PlainAid Go.BigFrame
set_option linter.unusedSimpArgs false
set_option linter.unusedVariables false
set_option maxRecDepth 100000
def labP (p:Int):LabV:=⟨natS p,1,p,false⟩
def codP (n:Nat) (t:Int × Int):Int × Int:=if stB n t=true then (t.1,0) else t
def fixF (x:ImgV) (k:Nat):List FixV:=(List.range k).flatMap fun (i:Nat)=>match x.code[i]? with
 | some t=>if stB x.code.length t=true then [⟨1,(i:Int),natS t.2,0⟩] else []
 | none=>[]
def entP (e:ExpV):EntV:=⟨e.name,natS e.at_⟩
def objO (x:ImgV):ObjV:=⟨x.code.map (codP x.code.length),x.data,x.zero,x.stack,(plc x).map labP,fixF x x.code.length,x.jumps.map natS,x.names.map entP⟩
def objE (x:ImgV):Int:=if imgChk x≠0 then imgChk x else if begB x=false then 120 else if 4096<(plc x).length then 121 else 0
theorem fixF_at {x:ImgV} {k:Nat} {t:Int × Int} (h:x.code[k]?=some t):fixF x (k+1)=fixF x k ++ (if stB x.code.length t=true then [⟨1,k,natS t.2,0⟩] else []):=by
 unfold fixF
 rw [List.range_succ,List.flatMap_append]
 simp [h]
theorem fixF_len (x:ImgV):∀ k,(fixF x k).length≤k
 | 0=>Nat.le_refl _
 | k+1=>by
  have h:=fixF_len x k
  have h1:fixF x (k+1)=fixF x k ++ (match x.code[k]? with
   | some t=>if stB x.code.length t=true then [⟨1,(k:Int),natS t.2,0⟩] else []
   | none=>[]):=by unfold fixF;rw [List.range_succ,List.flatMap_append];simp
  rw [h1,List.length_append]
  have h2:(match x.code[k]? with
   | some t=>if stB x.code.length t=true then [(⟨1,(k:Int),natS t.2,0⟩:FixV)] else []
   | none=>[]).length≤1:=by
   split
   ·split <;> simp
   ·simp
  omega
def codK (x:ImgV) (k:Nat):List (Int × Int):=(x.code.take k).map (codP x.code.length) ++ x.code.drop k
theorem codK_0 (x:ImgV):codK x 0=x.code:=by simp [codK]
theorem codK_all (x:ImgV):codK x x.code.length=x.code.map (codP x.code.length):=by simp [codK]
theorem codK_len (x:ImgV) (k:Nat):(codK x k).length=x.code.length:=by
 unfold codK
 rw [List.length_append,List.length_map,List.length_take,List.length_drop]
 omega
theorem codK_get {x:ImgV} {k:Nat} {t:Int × Int} (h:x.code[k]?=some t):(codK x k)[k]?=some t:=by
 have hk:=(List.getElem?_eq_some_iff.1 h).1
 unfold codK
 rw [List.getElem?_append_right (by rw [List.length_map,List.length_take];omega)]
 rw [List.length_map,List.length_take,Nat.min_eq_left (by omega),Nat.sub_self,List.getElem?_drop]
 exact h
theorem codK_no {x:ImgV} {k:Nat} {t:Int × Int} (h:x.code[k]?=some t) (hb:stB x.code.length t=false):codK x (k+1)=codK x k:=by
 obtain ⟨hk,rfl⟩:=List.getElem?_eq_some_iff.1 h
 unfold codK
 rw [take_at _ h,List.drop_eq_getElem_cons hk]
 have:codP x.code.length x.code[k]=x.code[k]:=by unfold codP;rw [hb];rfl
 rw [this,List.append_assoc]
 rfl
theorem codK_yes {x:ImgV} {k:Nat} {t:Int × Int} (h:x.code[k]?=some t) (hb:stB x.code.length t=true):codK x (k+1)=(codK x k).set k (t.1,0):=by
 obtain ⟨hk,rfl⟩:=List.getElem?_eq_some_iff.1 h
 unfold codK
 rw [take_at _ h,List.drop_eq_getElem_cons hk]
 have:codP x.code.length x.code[k]=(x.code[k].1,0):=by unfold codP;rw [hb];rfl
 rw [this,List.append_assoc,List.set_append_right _ _ (by simp;omega)]
 congr 1
 rw [List.length_map,List.length_take,Nat.min_eq_left (by omega),Nat.sub_self]
 rfl
theorem cE_set:∀ (l:List (Int × Int)) (k:Nat) (t:Int × Int),l[k]?=some t→(l.flatMap cE).set (k * 2+1) (.int .u32 0)=(l.set k (t.1,0)).flatMap cE
 | [],_,_,h=>by simp at h
 | a :: l,0,t,h=>by
  have e:a=t:=by simpa using h
  subst e
  rfl
 | a :: l,k+1,t,h=>by
  rw [List.flatMap_cons,List.set_append_right _ _ (by show 2≤_;omega),show (cE a).length=2 from rfl,show (k+1) * 2+1 - 2=k * 2+1 by omega,cE_set l k t (by simpa using h)]
  rfl
def oRows (g:Nat) (y:ObjV) (s:ObjS) (tl:List Ro):List Ro:=⟨36,1,.slice (some ⟨g,0,none⟩) 8 8,8,(objV y s).toList⟩ ::
 ⟨66,2,.slice s.c.A y.code.length s.c.c,y.code.length,y.code.flatMap cE⟩ :: ⟨5,1,.slice s.d.A y.data.length s.d.c,y.data.length,u8s y.data⟩ ::
 ⟨78,4,.slice s.l.A y.labels.length s.l.c,y.labels.length,y.labels.flatMap lE⟩ :: ⟨81,4,.slice s.f.A y.fixes.length s.f.c,y.fixes.length,y.fixes.flatMap fE⟩ ::
 ⟨9,1,.slice s.t.A y.targets.length s.t.c,y.targets.length,strV y.targets⟩ :: ⟨83,2,.slice s.e.A y.entries.length s.e.c,y.entries.length,y.entries.flatMap eE⟩ :: tl
section
variable {W:World} {B g n c:Nat} {y:ObjV} {s:ObjS} {tl:List Ro} {A:Option Addr} {xs:List Value}
theorem oR_lab (h:Owns W B ((oRows g y s tl).set 3 ⟨78,4,.slice A n c,n,xs⟩)) (l:LabV) (hn:n=y.labels.length+1) (hx:xs=y.labels.flatMap lE ++ lE l) :
  Owns (W.setCell ⟨g,4,none⟩ (.slice A n c)) B (oRows g { y with labels:=y.labels ++ [l] } { s with l:=⟨A,c⟩ } tl):=by
 subst hn hx
 have h1:=h.store (i:=0) (e:=36) (size:=1) (n:=8) (g:=g) (c:=8) (j:=4) rfl (by show 4<8;omega) (.slice A (y.labels.length+1) c)
 have e:((oRows g y s tl).set 3 ⟨78,4,.slice A (y.labels.length+1) c,y.labels.length+1,y.labels.flatMap lE ++ lE l⟩).set 0 ⟨36,1,.slice (some ⟨g,0,none⟩) 8 8,8,((objV y s).toList).set 4 (.slice A (y.labels.length+1) c)⟩=oRows g { y with labels:=y.labels ++ [l] } { s with l:=⟨A,c⟩ } tl:=by
  simp [oRows,objV]
 rw [← e]
 exact h1
theorem oR_fix (h:Owns W B ((oRows g y s tl).set 4 ⟨81,4,.slice A n c,n,xs⟩)) (l:FixV) (hn:n=y.fixes.length+1) (hx:xs=y.fixes.flatMap fE ++ fE l) :
  Owns (W.setCell ⟨g,5,none⟩ (.slice A n c)) B (oRows g { y with fixes:=y.fixes ++ [l] } { s with f:=⟨A,c⟩ } tl):=by
 subst hn hx
 have h1:=h.store (i:=0) (e:=36) (size:=1) (n:=8) (g:=g) (c:=8) (j:=5) rfl (by show 5<8;omega) (.slice A (y.fixes.length+1) c)
 have e:((oRows g y s tl).set 4 ⟨81,4,.slice A (y.fixes.length+1) c,y.fixes.length+1,y.fixes.flatMap fE ++ fE l⟩).set 0 ⟨36,1,.slice (some ⟨g,0,none⟩) 8 8,8,((objV y s).toList).set 5 (.slice A (y.fixes.length+1) c)⟩=oRows g { y with fixes:=y.fixes ++ [l] } { s with f:=⟨A,c⟩ } tl:=by
  simp [oRows,objV]
 rw [← e]
 exact h1
theorem oR_tgt (h:Owns W B ((oRows g y s tl).set 5 ⟨9,1,.slice A n c,n,xs⟩)) (l:ByteArray) (hn:n=y.targets.length+1) (hx:xs=strV y.targets ++ [.string l]) :
  Owns (W.setCell ⟨g,6,none⟩ (.slice A n c)) B (oRows g { y with targets:=y.targets ++ [l] } { s with t:=⟨A,c⟩ } tl):=by
 subst hn hx
 have h1:=h.store (i:=0) (e:=36) (size:=1) (n:=8) (g:=g) (c:=8) (j:=6) rfl (by show 6<8;omega) (.slice A (y.targets.length+1) c)
 have e:((oRows g y s tl).set 5 ⟨9,1,.slice A (y.targets.length+1) c,y.targets.length+1,strV y.targets ++ [.string l]⟩).set 0 ⟨36,1,.slice (some ⟨g,0,none⟩) 8 8,8,((objV y s).toList).set 6 (.slice A (y.targets.length+1) c)⟩=oRows g { y with targets:=y.targets ++ [l] } { s with t:=⟨A,c⟩ } tl:=by
  simp [oRows,objV,strV]
 rw [← e]
 exact h1
theorem oR_ent (h:Owns W B ((oRows g y s tl).set 6 ⟨83,2,.slice A n c,n,xs⟩)) (l:EntV) (hn:n=y.entries.length+1) (hx:xs=y.entries.flatMap eE ++ eE l) :
  Owns (W.setCell ⟨g,7,none⟩ (.slice A n c)) B (oRows g { y with entries:=y.entries ++ [l] } { s with e:=⟨A,c⟩ } tl):=by
 subst hn hx
 have h1:=h.store (i:=0) (e:=36) (size:=1) (n:=8) (g:=g) (c:=8) (j:=7) rfl (by show 7<8;omega) (.slice A (y.entries.length+1) c)
 have e:((oRows g y s tl).set 6 ⟨83,2,.slice A (y.entries.length+1) c,y.entries.length+1,y.entries.flatMap eE ++ eE l⟩).set 0 ⟨36,1,.slice (some ⟨g,0,none⟩) 8 8,8,((objV y s).toList).set 7 (.slice A (y.entries.length+1) c)⟩=oRows g { y with entries:=y.entries ++ [l] } { s with e:=⟨A,c⟩ } tl:=by
  simp [oRows,objV]
 rw [← e]
 exact h1
theorem oR_code {gc cc k:Nat} {t:Int × Int} (hs:s.c=⟨some ⟨gc,0,none⟩,cc⟩) (h:Owns W B (oRows g y s tl)) (hk:y.code[k]?=some t) :
  Owns (W.setCell ⟨gc,k * 2+1,none⟩ (.int .u32 0)) B (oRows g { y with code:=y.code.set k (t.1,0) } s tl):=by
 have hr:(oRows g y s tl)[1]?=some ⟨66,2,.slice (some ⟨gc,0,none⟩) y.code.length cc,y.code.length,y.code.flatMap cE⟩:=by
  unfold oRows;rw [hs];rfl
 have hl:k * 2+1<(y.code.flatMap cE).length:=by
  have:=(List.getElem?_eq_some_iff.1 hk).1
  rw [enc_len cE_len];omega
 have h1:=h.store hr (j:=k * 2+1) hl (.int .u32 0)
 rw [cE_set _ _ _ hk] at h1
 have e:(oRows g y s tl).set 1 ⟨66,2,.slice (some ⟨gc,0,none⟩) y.code.length cc,y.code.length,(y.code.set k (t.1,0)).flatMap cE⟩=oRows g { y with code:=y.code.set k (t.1,0) } s tl:=by
  unfold oRows;rw [hs];simp [objV,hs]
 rw [← e]
 exact h1
theorem oR_box (h:Owns W B (oRows g y s tl)):(W.cell? ⟨g,0,none⟩=some (.slice s.c.A y.code.length s.c.c)∧W.cell? ⟨g,1,none⟩=some (.slice s.d.A y.data.length s.d.c)∧W.cell? ⟨g,2,none⟩=some (.int .u32 y.zero)∧W.cell? ⟨g,3,none⟩=some (.int .u32 y.stack) ∧
  W.cell? ⟨g,4,none⟩=some (.slice s.l.A y.labels.length s.l.c)∧W.cell? ⟨g,5,none⟩=some (.slice s.f.A y.fixes.length s.f.c)∧W.cell? ⟨g,6,none⟩=some (.slice s.t.A y.targets.length s.t.c)∧W.cell? ⟨g,7,none⟩=some (.slice s.e.A y.entries.length s.e.c))∧B≤g∧g<W.heap.size :=
 ⟨⟨h.cell (i:=0) (j:=0) rfl rfl,h.cell (i:=0) (j:=1) rfl rfl,h.cell (i:=0) (j:=2) rfl rfl,h.cell (i:=0) (j:=3) rfl rfl,h.cell (i:=0) (j:=4) rfl rfl,h.cell (i:=0) (j:=5) rfl rfl,h.cell (i:=0) (j:=6) rfl rfl,h.cell (i:=0) (j:=7) rfl rfl⟩,h.base (i:=0) rfl⟩
end
section
variable {W:World} {B g n c:Nat} {y:ObjV} {s:ObjS} {tl:List Ro}
theorem stp_lab {ops:Array Oper} {o:Oper} {a:Act} {K:Act→World→Prop} {Q:Exit→Act→World→Prop} {E:Prop} (hgd:o.guard=none) (u v:Operand)
  (ho:o.op=.call { callee:=.builtin .append,args:=#[u,v],argTypes:=#[31,31] }) (hO:Owns W B (oRows g y s tl)) (hB:B≤W.heap.size) (hs:a.eval u=.slice s.l.A y.labels.length s.l.c) (l:LabV)
  (hx:a.eval v=.slice (some ⟨W.heap.size,0,none⟩) 1 1) (hl:y.labels.length≤1048576)
  (h:∀ A c w',Owns (w'.setCell ⟨g,4,none⟩ (.slice A (y.labels.length+1) c)) B (oRows g { y with labels:=y.labels ++ [l] } { s with l:=⟨A,c⟩ } tl)→w'.cell? ⟨g,4,none⟩=some (.slice s.l.A y.labels.length s.l.c)→w'.frozen? ⟨g,4,none⟩=false→g<w'.heap.size →
    Below B W (w'.setCell ⟨g,4,none⟩ (.slice A (y.labels.length+1) c))→K (a.put o.dst (.slice A (y.labels.length+1) c)) w') :
  if Region.wanted o (yielded ops a.tmps)=true then Oper.wp Tryz.prog o a (W.alloc (.cells #[.string l.name,.int .u8 l.sec,.int .u32 l.at_,.bool l.opn] 78)) K Q else E:=by
 obtain ⟨i0,hi,hz0,hz1,hz2⟩:=info_parts lab_info
 have hw:Region.wanted o (yielded ops a.tmps)=true:=by simp [Region.wanted,hgd]
 rw [if_pos hw]
 have hr:(oRows g y s tl)[3]?=some ⟨78,4,.slice s.l.A y.labels.length s.l.c,y.labels.length,y.labels.flatMap lE⟩:=rfl
 have hOA:=hO.alloc (.cells #[.string l.name,.int .u8 l.sec,.int .u32 l.at_,.bool l.opn] 78)
 have hBA:B≤(W.alloc (.cells #[.string l.name,.int .u8 l.sec,.int .u32 l.at_,.bool l.opn] 78)).heap.size:=by rw [World.size_alloc];omega
 refine wp_append_any _ u v 31 ho B 78 i0 _ 4 32 Tryz.underlying31 hi hz0 hz1 hz2 rfl (by omega) _ y.labels.length _ hs (hOA.at_ hr) _ _ 1 1 (lE l) hx (reads_new W 78 4 1 (lE l) rfl) (by simp [Value.oneCell',lE,fE,eE]) (by simp only [maxLen];omega) (by omega) hBA ?_
 intro v' w' hown hg hat
 obtain ⟨A,c,rfl,_,_⟩:=ownsRow_slice hown
 have hO':=hOA.turn hr hg (r':=⟨78,4,.slice A (y.labels.length+1) c,y.labels.length+1,y.labels.flatMap lE ++ (lE l)⟩) hown (by
  rcases hat with h2 | h2
  ·exact .inl h2
  ·exact .inr (.inr ⟨_,h2,Nat.le_refl _⟩))
 have hb:=(Below.refl B (W.alloc (.cells #[.string l.name,.int .u8 l.sec,.int .u32 l.at_,.bool l.opn] 78))).grown hg hBA (fun j hj=>(hOA.lt_ (List.mem_of_getElem? hr) hj).1)
 have hgb:=hO'.base (i:=0) (e:=36) (size:=1) (n:=8) (g:=g) (c:=8) rfl
 exact h A c w' (oR_lab hO' l rfl rfl) (hO'.cell (i:=0) (j:=4) rfl rfl) (hO'.frozen (i:=0) rfl 4) hgb.2 ((((Below.refl B W).alloc hB _).trans hb).setCell (p:=⟨g,4,none⟩) hgb.1 _)
theorem stp_fix {ops:Array Oper} {o:Oper} {a:Act} {K:Act→World→Prop} {Q:Exit→Act→World→Prop} {E:Prop} (hgd:o.guard=none) (u v:Operand)
  (ho:o.op=.call { callee:=.builtin .append,args:=#[u,v],argTypes:=#[32,32] }) (hO:Owns W B (oRows g y s tl)) (hB:B≤W.heap.size) (hs:a.eval u=.slice s.f.A y.fixes.length s.f.c) (l:FixV)
  (hx:a.eval v=.slice (some ⟨W.heap.size,0,none⟩) 1 1) (hl:y.fixes.length≤1048576)
  (h:∀ A c w',Owns (w'.setCell ⟨g,5,none⟩ (.slice A (y.fixes.length+1) c)) B (oRows g { y with fixes:=y.fixes ++ [l] } { s with f:=⟨A,c⟩ } tl)→w'.cell? ⟨g,5,none⟩=some (.slice s.f.A y.fixes.length s.f.c)→w'.frozen? ⟨g,5,none⟩=false→g<w'.heap.size →
    Below B W (w'.setCell ⟨g,5,none⟩ (.slice A (y.fixes.length+1) c))→K (a.put o.dst (.slice A (y.fixes.length+1) c)) w') :
  if Region.wanted o (yielded ops a.tmps)=true then Oper.wp Tryz.prog o a (W.alloc (.cells #[.int .u8 l.sec,.int .u32 l.at_,.string l.name,.int .u32 l.add] 81)) K Q else E:=by
 obtain ⟨i0,hi,hz0,hz1,hz2⟩:=info_parts fix_info
 have hw:Region.wanted o (yielded ops a.tmps)=true:=by simp [Region.wanted,hgd]
 rw [if_pos hw]
 have hr:(oRows g y s tl)[4]?=some ⟨81,4,.slice s.f.A y.fixes.length s.f.c,y.fixes.length,y.fixes.flatMap fE⟩:=rfl
 have hOA:=hO.alloc (.cells #[.int .u8 l.sec,.int .u32 l.at_,.string l.name,.int .u32 l.add] 81)
 have hBA:B≤(W.alloc (.cells #[.int .u8 l.sec,.int .u32 l.at_,.string l.name,.int .u32 l.add] 81)).heap.size:=by rw [World.size_alloc];omega
 refine wp_append_any _ u v 32 ho B 81 i0 _ 4 32 Tryz.underlying32 hi hz0 hz1 hz2 rfl (by omega) _ y.fixes.length _ hs (hOA.at_ hr) _ _ 1 1 (fE l) hx (reads_new W 81 4 1 (fE l) rfl) (by simp [Value.oneCell',lE,fE,eE]) (by simp only [maxLen];omega) (by omega) hBA ?_
 intro v' w' hown hg hat
 obtain ⟨A,c,rfl,_,_⟩:=ownsRow_slice hown
 have hO':=hOA.turn hr hg (r':=⟨81,4,.slice A (y.fixes.length+1) c,y.fixes.length+1,y.fixes.flatMap fE ++ (fE l)⟩) hown (by
  rcases hat with h2 | h2
  ·exact .inl h2
  ·exact .inr (.inr ⟨_,h2,Nat.le_refl _⟩))
 have hb:=(Below.refl B (W.alloc (.cells #[.int .u8 l.sec,.int .u32 l.at_,.string l.name,.int .u32 l.add] 81))).grown hg hBA (fun j hj=>(hOA.lt_ (List.mem_of_getElem? hr) hj).1)
 have hgb:=hO'.base (i:=0) (e:=36) (size:=1) (n:=8) (g:=g) (c:=8) rfl
 exact h A c w' (oR_fix hO' l rfl rfl) (hO'.cell (i:=0) (j:=5) rfl rfl) (hO'.frozen (i:=0) rfl 5) hgb.2 ((((Below.refl B W).alloc hB _).trans hb).setCell (p:=⟨g,5,none⟩) hgb.1 _)
theorem stp_tgt {ops:Array Oper} {o:Oper} {a:Act} {K:Act→World→Prop} {Q:Exit→Act→World→Prop} {E:Prop} (hgd:o.guard=none) (u v:Operand)
  (ho:o.op=.call { callee:=.builtin .append,args:=#[u,v],argTypes:=#[33,33] }) (hO:Owns W B (oRows g y s tl)) (hB:B≤W.heap.size) (hs:a.eval u=.slice s.t.A y.targets.length s.t.c) (l:ByteArray)
  (hx:a.eval v=.slice (some ⟨W.heap.size,0,none⟩) 1 1) (hl:y.targets.length≤1048576)
  (h:∀ A c w',Owns (w'.setCell ⟨g,6,none⟩ (.slice A (y.targets.length+1) c)) B (oRows g { y with targets:=y.targets ++ [l] } { s with t:=⟨A,c⟩ } tl)→w'.cell? ⟨g,6,none⟩=some (.slice s.t.A y.targets.length s.t.c)→w'.frozen? ⟨g,6,none⟩=false→g<w'.heap.size →
    Below B W (w'.setCell ⟨g,6,none⟩ (.slice A (y.targets.length+1) c))→K (a.put o.dst (.slice A (y.targets.length+1) c)) w') :
  if Region.wanted o (yielded ops a.tmps)=true then Oper.wp Tryz.prog o a (W.alloc (.cells #[.string l] 9)) K Q else E:=by
 obtain ⟨i0,hi,hz0,hz1,hz2⟩:=info_parts str_info
 have hw:Region.wanted o (yielded ops a.tmps)=true:=by simp [Region.wanted,hgd]
 rw [if_pos hw]
 have hr:(oRows g y s tl)[5]?=some ⟨9,1,.slice s.t.A y.targets.length s.t.c,y.targets.length,strV y.targets⟩:=rfl
 have hOA:=hO.alloc (.cells #[.string l] 9)
 have hBA:B≤(W.alloc (.cells #[.string l] 9)).heap.size:=by rw [World.size_alloc];omega
 refine wp_append_any _ u v 33 ho B 9 i0 _ 1 16 Tryz.underlying33 hi hz0 hz1 hz2 rfl (by omega) _ y.targets.length _ hs (hOA.at_ hr) _ _ 1 1 [.string l] hx (reads_new W 9 1 1 [.string l] rfl) (by simp [Value.oneCell',lE,fE,eE]) (by simp only [maxLen];omega) (by omega) hBA ?_
 intro v' w' hown hg hat
 obtain ⟨A,c,rfl,_,_⟩:=ownsRow_slice hown
 have hO':=hOA.turn hr hg (r':=⟨9,1,.slice A (y.targets.length+1) c,y.targets.length+1,strV y.targets ++ [.string l]⟩) hown (by
  rcases hat with h2 | h2
  ·exact .inl h2
  ·exact .inr (.inr ⟨_,h2,Nat.le_refl _⟩))
 have hb:=(Below.refl B (W.alloc (.cells #[.string l] 9))).grown hg hBA (fun j hj=>(hOA.lt_ (List.mem_of_getElem? hr) hj).1)
 have hgb:=hO'.base (i:=0) (e:=36) (size:=1) (n:=8) (g:=g) (c:=8) rfl
 exact h A c w' (oR_tgt hO' l rfl rfl) (hO'.cell (i:=0) (j:=6) rfl rfl) (hO'.frozen (i:=0) rfl 6) hgb.2 ((((Below.refl B W).alloc hB _).trans hb).setCell (p:=⟨g,6,none⟩) hgb.1 _)
theorem stp_ent {ops:Array Oper} {o:Oper} {a:Act} {K:Act→World→Prop} {Q:Exit→Act→World→Prop} {E:Prop} (hgd:o.guard=none) (u v:Operand)
  (ho:o.op=.call { callee:=.builtin .append,args:=#[u,v],argTypes:=#[34,34] }) (hO:Owns W B (oRows g y s tl)) (hB:B≤W.heap.size) (hs:a.eval u=.slice s.e.A y.entries.length s.e.c) (l:EntV)
  (hx:a.eval v=.slice (some ⟨W.heap.size,0,none⟩) 1 1) (hl:y.entries.length≤1048576)
  (h:∀ A c w',Owns (w'.setCell ⟨g,7,none⟩ (.slice A (y.entries.length+1) c)) B (oRows g { y with entries:=y.entries ++ [l] } { s with e:=⟨A,c⟩ } tl)→w'.cell? ⟨g,7,none⟩=some (.slice s.e.A y.entries.length s.e.c)→w'.frozen? ⟨g,7,none⟩=false→g<w'.heap.size →
    Below B W (w'.setCell ⟨g,7,none⟩ (.slice A (y.entries.length+1) c))→K (a.put o.dst (.slice A (y.entries.length+1) c)) w') :
  if Region.wanted o (yielded ops a.tmps)=true then Oper.wp Tryz.prog o a (W.alloc (.cells #[.string l.name,.string l.lab] 83)) K Q else E:=by
 obtain ⟨i0,hi,hz0,hz1,hz2⟩:=info_parts ent_info
 have hw:Region.wanted o (yielded ops a.tmps)=true:=by simp [Region.wanted,hgd]
 rw [if_pos hw]
 have hr:(oRows g y s tl)[6]?=some ⟨83,2,.slice s.e.A y.entries.length s.e.c,y.entries.length,y.entries.flatMap eE⟩:=rfl
 have hOA:=hO.alloc (.cells #[.string l.name,.string l.lab] 83)
 have hBA:B≤(W.alloc (.cells #[.string l.name,.string l.lab] 83)).heap.size:=by rw [World.size_alloc];omega
 refine wp_append_any _ u v 34 ho B 83 i0 _ 2 32 Tryz.underlying34 hi hz0 hz1 hz2 rfl (by omega) _ y.entries.length _ hs (hOA.at_ hr) _ _ 1 1 (eE l) hx (reads_new W 83 2 1 (eE l) rfl) (by simp [Value.oneCell',lE,fE,eE]) (by simp only [maxLen];omega) (by omega) hBA ?_
 intro v' w' hown hg hat
 obtain ⟨A,c,rfl,_,_⟩:=ownsRow_slice hown
 have hO':=hOA.turn hr hg (r':=⟨83,2,.slice A (y.entries.length+1) c,y.entries.length+1,y.entries.flatMap eE ++ (eE l)⟩) hown (by
  rcases hat with h2 | h2
  ·exact .inl h2
  ·exact .inr (.inr ⟨_,h2,Nat.le_refl _⟩))
 have hb:=(Below.refl B (W.alloc (.cells #[.string l.name,.string l.lab] 83))).grown hg hBA (fun j hj=>(hOA.lt_ (List.mem_of_getElem? hr) hj).1)
 have hgb:=hO'.base (i:=0) (e:=36) (size:=1) (n:=8) (g:=g) (c:=8) rfl
 exact h A c w' (oR_ent hO' l rfl rfl) (hO'.cell (i:=0) (j:=7) rfl rfl) (hO'.frozen (i:=0) rfl 7) hgb.2 ((((Below.refl B W).alloc hB _).trans hb).setCell (p:=⟨g,7,none⟩) hgb.1 _)
end
theorem ci_info:(Tryz.prog.info? 66).map (fun i=>(i.zero,i.size,i.bytes))=some (some (.agg #[.int .u8 0,.int .u32 0]),2,8):=by kernel_rfl
theorem cb_info:(Tryz.prog.info? 5).map (fun i=>(i.zero,i.size,i.bytes))=some (some (.int .u8 0),1,1):=by kernel_rfl
theorem one_cE (l:List (Int × Int)):∀ u ∈ l.flatMap cE,u.oneCell'=true:=by
 intro u hu
 obtain ⟨t,_,ht⟩:=List.mem_flatMap.1 hu
 simp only [cE,List.mem_cons,List.not_mem_nil,or_false] at ht
 rcases ht with rfl | rfl <;> rfl
theorem own_empty (w:World) (t:TypeId) (size:Nat):Owns (w.alloc (.cells #[] t)) w.heap.size [⟨t,size,.slice (some ⟨w.heap.size,0,none⟩) 0 0,0,[]⟩] :=
 ⟨fun q hq=>by rw [List.mem_singleton.1 hq];exact World.ownsRow_made w #[] 0 (Nat.le_refl _) (Nat.zero_le _) (by simp),List.pairwise_singleton _ _⟩
set_option maxHeartbeats 1000000 in
theorem clone_code (l:List (Int × Int)) (A:Option Addr) (c:Nat) (w:World) (hr:Reads w w.heap.size 2 A l.length (l.flatMap cE)) (hl:l.length≤16384) :
  Calls Tryz.prog 38 #[.slice A l.length c] w fun e w'=>∃ v,e=.returned v∧w'.ownsRow w.heap.size 66 2 v l.length (l.flatMap cE)∧Below w.heap.size w w':=by
 obtain ⟨i0,hi,hz0,hz1,hz2⟩:=info_parts ci_info
 have q22:∀ (w:World) (a:Option Addr) (n c n' c':Nat),(binOp .eql 22 (.slice a n c) (.slice none n' c')).run Tryz.prog w=.ok (.bool a.isNone) w:=fun w a n c n' c'=>Lib.run_eql_slice_nil w _ _ a n c n' c' Tryz.underlying22
 have ONE:=hide_ (one_cE l)
 obtain ⟨xs,hxs⟩:∃ x,x=l.flatMap cE:=⟨_,rfl⟩
 obtain ⟨n,hn⟩:∃ x,x=l.length:=⟨_,rfl⟩
 rw [← hxs,← hn] at hr ⊢
 rw [← hxs] at ONE
 rw [← hn] at hl
 clear hn hxs
 have HR:=hide_ hr
 cases A with
 | none =>
  have h0:n=0:=by
   rcases Nat.eq_zero_or_pos n with h | h
   ·exact h
   ·obtain ⟨ad,h,_⟩:=hr.2 h;cases h
  subst h0
  obtain rfl:xs=[]:=List.eq_nil_of_length_eq_zero (by simpa using hr.1)
  clear hr
  go_enter Tryz.func38,Tryz.ntmps38
  go_wp2
  go_ret
  exact ⟨_,rfl,World.ownsRow_nil _ _ _ _,Below.refl _ _⟩
 | some ad =>
  clear hr
  go_enter Tryz.func38,Tryz.ntmps38
  go_wp2_with (at_builtin;refine wpList_append_owns _ rfl (.tmp 5) (.tmp 6) 22 rfl w.heap.size _ 0 66 2 _ 0 [] rfl (own_empty w 66 2) (by simp) i0 _ 8 Tryz.underlying22 hi hz0 hz1 hz2 rfl (by omega) rfl _ _ n c xs rfl (HR.out.alloc (Nat.le_refl _) _) ONE.out (by simp only [maxLen];omega) (by omega) ?_)
  intro v' w1 hO hb _
  have HO:=hide_ (hO.at_ (i:=0) rfl)
  have HB:=hide_ (((Below.refl _ _).alloc (Nat.le_refl _) _).trans hb)
  clear hO hb
  go_wp2
  go_ret
  have h9:=HO.out
  (try simp only [Nat.zero_add,List.nil_append] at h9)
  exact ⟨v',rfl,h9,HB.out⟩
set_option maxHeartbeats 1000000 in
theorem clone_bytes (l:List Int) (A:Option Addr) (c:Nat) (w:World) (hr:Reads w w.heap.size 1 A l.length (u8s l)) (hl:l.length≤65536) :
  Calls Tryz.prog 39 #[.slice A l.length c] w fun e w'=>∃ v,e=.returned v∧w'.ownsRow w.heap.size 5 1 v l.length (u8s l)∧Below w.heap.size w w':=by
 obtain ⟨i0,hi,hz0,hz1,hz2⟩:=info_parts cb_info
 have q22:∀ (w:World) (a:Option Addr) (n c n' c':Nat),(binOp .eql 24 (.slice a n c) (.slice none n' c')).run Tryz.prog w=.ok (.bool a.isNone) w:=fun w a n c n' c'=>Lib.run_eql_slice_nil w _ _ a n c n' c' Tryz.underlying24
 have ONE:=hide_ (show ∀ u ∈ u8s l,u.oneCell'=true from fun u hu=>by obtain ⟨a,_,rfl⟩:=List.mem_map.1 hu;rfl)
 obtain ⟨xs,hxs⟩:∃ x,x=u8s l:=⟨_,rfl⟩
 obtain ⟨n,hn⟩:∃ x,x=l.length:=⟨_,rfl⟩
 rw [← hxs,← hn] at hr ⊢
 rw [← hxs] at ONE
 rw [← hn] at hl
 clear hn hxs
 have HR:=hide_ hr
 cases A with
 | none =>
  have h0:n=0:=by
   rcases Nat.eq_zero_or_pos n with h | h
   ·exact h
   ·obtain ⟨ad,h,_⟩:=hr.2 h;cases h
  subst h0
  obtain rfl:xs=[]:=List.eq_nil_of_length_eq_zero (by simpa using hr.1)
  clear hr
  go_enter Tryz.func39,Tryz.ntmps39
  go_wp2
  go_ret
  exact ⟨_,rfl,World.ownsRow_nil _ _ _ _,Below.refl _ _⟩
 | some ad =>
  clear hr
  go_enter Tryz.func39,Tryz.ntmps39
  go_wp2_with (at_builtin;refine wpList_append_owns _ rfl (.tmp 5) (.tmp 6) 24 rfl w.heap.size _ 0 5 1 _ 0 [] rfl (own_empty w 5 1) (by simp) i0 _ 1 Tryz.underlying24 hi hz0 hz1 hz2 rfl (by omega) rfl _ _ n c xs rfl (HR.out.alloc (Nat.le_refl _) _) ONE.out (by simp only [maxLen];omega) (by omega) ?_)
  intro v' w1 hO hb _
  have HO:=hide_ (hO.at_ (i:=0) rfl)
  have HB:=hide_ (((Below.refl _ _).alloc (Nat.le_refl _) _).trans hb)
  clear hO hb
  go_wp2
  go_ret
  have h9:=HO.out
  (try simp only [Nat.zero_add,List.nil_append] at h9)
  exact ⟨v',rfl,h9,HB.out⟩
end Go.Proofs.YtikbegmodacopaaGreatDoor
namespace Go.Proofs.YtikbegmodacopaaGreatDoor
open Go.RowKit Go.PlainAid Go.BigFrame
set_option linter.unusedSimpArgs false
set_option linter.unusedVariables false
set_option maxRecDepth 100000
theorem whole_any (x:ImgV) (s:ImgS) (w:World) (hx:ImgOk x):Calls Tryz.prog 78 #[.agg (imgV x s)] w fun e w'=>e=.returned (.int .u64 (roomOf x))∧Below w.heap.size w w':=by
 obtain ⟨l1,l2,l3,l4⟩:=hx.lens
 obtain ⟨z0,z1⟩:=hx.zero
 obtain ⟨k0,k1⟩:=hx.stack
 have HR:=hide_ (show roomOf x=x.data.length+x.zero+x.stack from rfl)
 unfold imgV
 obtain ⟨m,hm⟩:∃ m,m=roomOf x:=⟨_,rfl⟩
 rw [← hm] at HR ⊢
 clear hm
 go_enter Tryz.func78,Tryz.ntmps78
 go_wp2
 go_ret
 exact ⟨by rw [HR.out];rfl,(Below.refl _ _).alloc (Nat.le_refl _) _⟩
def nmsR (l:List ExpV):Bool:=decide (l.length≤64) && nmsB l
theorem nmsR_many {l:List ExpV} (h:64<l.length):nmsR l=false:=by unfold nmsR;rw [decide_eq_false (by omega)];rfl
theorem nmsR_some {l:List ExpV} (h:¬ 64<l.length):nmsR l=nmsB l:=by unfold nmsR;rw [decide_eq_true (by omega)];rfl
set_option maxHeartbeats 2000000 in
theorem rnames_any (l:List ExpV) (A:Option Addr) (c:Nat) (w:World) (hr:Reads w w.heap.size 2 A l.length (l.flatMap xE)) (hl:l.length≤140737488351232) (hs:∀ t ∈ l,t.name.size≤140737488351232) :
  Calls Tryz.prog 79 #[.slice A l.length c] w fun e w'=>e=.returned (.bool (nmsR l))∧w'=w:=by
 obtain ⟨n,hn⟩:∃ n,n=l.length:=⟨_,rfl⟩
 have HR:=hide_ hr
 have HS:=hide_ hs
 rw [← hn] at HR hl ⊢
 have HN:=hide_ hn
 clear hr hn hs
 by_cases h64:64<n
 ·have g:(64:Int)<(n:Int):=by omega
  have E:=hide_ (nmsR_many (l:=l) (by rw [← HN.out];exact h64))
  go_enter Tryz.func79,Tryz.ntmps79
  go_wp2
  go_ret
  exact ⟨by rw [E.out];rfl,rfl⟩
 ·have g:¬ (64:Int)<(n:Int):=by omega
  have E:=hide_ (nmsR_some (l:=l) (by rw [← HN.out];exact h64))
  clear h64
  go_enter Tryz.func79,Tryz.ntmps79
  go_wp2
  go_loop [3] (fun i=>∃ k:Nat,k≤n∧i=.int .i64 k∧Hid (∀ t,t<k→nmOk l t=true)) (fun i=>n - (intOf i).toNat)
  case atStart=>exact ⟨0,Nat.zero_le _,rfl,hide_ (fun t ht=>absurd ht (by omega))⟩
  case round =>
   obtain ⟨k,hk,rfl,HA⟩:=hrel
   by_cases hlt:k<n
   ·obtain ⟨t,ht⟩:∃ t,l[k]?=some t:=⟨_,List.getElem?_eq_getElem (by rw [← HN.out];exact hlt)⟩
    have hsz:=HS.out t (List.mem_of_getElem? ht)
    obtain ⟨_,ad,rfl,_,p0,_⟩:=el_cells xE_len HR.out (by omega) ht
    have q0:=p0 _ rfl
    have NO:=hide_ (fun (h:nmOk l k=false)=>show nmsR l=false by rw [E.out,nmsB_no (by rw [← HN.out];exact hlt) h])
    have YES:=hide_ (fun (h:nmOk l k=true)=>show ∀ t,t<k+1→nmOk l t=true from fun t ht=>by
     by_cases e:t=k
     ·rw [e];exact h
     ·exact HA.out t (by omega))
    obtain ⟨b,hb⟩:∃ b,b=nmOk l k:=⟨_,rfl⟩
    rw [← hb] at NO YES
    cases k with
    | zero =>
     have HO:=nmOk_0 ht
     rw [← hb] at HO
     obtain ⟨nm,at_⟩:=t
     dsimp only at q0 hsz HO
     clear p0 ht hb HA
     rw [Nat.zero_mul] at q0
     have q1:w.cell? ad=some (.string nm):=by simpa [Addr.add] using q0
     have z0:decide ((0:Int)<((0:Nat):Int))=false:=rfl
     have hways:(nm.size<1∧b=false)∨(1≤nm.size∧32<nm.size∧b=false)∨(1≤nm.size∧nm.size≤32∧b=true):=by
      by_cases a1:1≤nm.size
      ·by_cases a2:nm.size≤32
       ·exact .inr (.inr ⟨a1,a2,by rw [HO];simp [a1,a2]⟩)
       ·exact .inr (.inl ⟨a1,by omega,by rw [HO];simp [a1,a2]⟩)
      ·exact .inl ⟨by omega,by rw [HO];simp [a1]⟩
     clear HO
     rcases hways with ⟨a1,rfl⟩ | ⟨a1,a2,rfl⟩ | ⟨a1,a2,rfl⟩
     ·have c1:(nm.size:Int)<1:=by omega
      have F:=hide_ (NO.out rfl)
      go_wp2
      go_ret
      exact ⟨by rw [F.out];rfl,rfl⟩
     ·have c1:¬ (nm.size:Int)<1:=by omega
      have c2:(32:Int)<(nm.size:Int):=by omega
      have F:=hide_ (NO.out rfl)
      go_wp2
      go_ret
      exact ⟨by rw [F.out];rfl,rfl⟩
     ·have c1:¬ (nm.size:Int)<1:=by omega
      have c2:¬ (32:Int)<(nm.size:Int):=by omega
      have F:=hide_ (YES.out rfl)
      go_wp2
      go_round
      case rel=>exact ⟨0+1,by omega,by go_num,F⟩
      case measure=>simp [intOf] <;> omega
    | succ m =>
     obtain ⟨p,hp⟩:∃ p,l[m]?=some p:=⟨_,List.getElem?_eq_getElem (by rw [← HN.out];omega)⟩
     obtain ⟨_,ad',e,_,p0',_⟩:=el_cells xE_len HR.out (by omega) hp
     injection e with e
     subst e
     have q1:=p0' _ rfl
     have HO:=nmOk_s ht hp
     rw [← hb] at HO
     obtain ⟨nm,at_⟩:=t
     obtain ⟨pm,pa⟩:=p
     dsimp only at q0 q1 hsz HO
     clear p0 p0' ht hb HA hp
     have z0:decide ((0:Int)<(m:Int)+1)=true:=decide_eq_true (by omega)
     have hways:(nm.size<1∧b=false)∨(1≤nm.size∧32<nm.size∧b=false)∨(1≤nm.size∧nm.size≤32∧(Op.bytesLess nm.toList pm.toList || nm.toList == pm.toList)=true∧b=false)∨(1≤nm.size∧nm.size≤32∧(Op.bytesLess nm.toList pm.toList || nm.toList == pm.toList)=false∧b=true):=by
      unfold bGt at HO
      by_cases a1:1≤nm.size
      ·by_cases a2:nm.size≤32
       ·cases h1:(Op.bytesLess nm.toList pm.toList || nm.toList == pm.toList)
        ·exact .inr (.inr (.inr ⟨a1,a2,rfl,by rw [HO,← Bool.not_or,h1];simp [a1,a2]⟩))
        ·exact .inr (.inr (.inl ⟨a1,a2,rfl,by rw [HO,← Bool.not_or,h1];simp⟩))
       ·exact .inr (.inl ⟨a1,by omega,by rw [HO];simp [a1,a2]⟩)
      ·exact .inl ⟨by omega,by rw [HO];simp [a1]⟩
     clear HO
     rcases hways with ⟨a1,rfl⟩ | ⟨a1,a2,rfl⟩ | ⟨a1,a2,a3,rfl⟩ | ⟨a1,a2,a3,rfl⟩
     ·have c1:(nm.size:Int)<1:=by omega
      have F:=hide_ (NO.out rfl)
      go_wp2
      go_ret
      exact ⟨by rw [F.out];rfl,rfl⟩
     ·have c1:¬ (nm.size:Int)<1:=by omega
      have c2:(32:Int)<(nm.size:Int):=by omega
      have F:=hide_ (NO.out rfl)
      go_wp2
      go_ret
      exact ⟨by rw [F.out];rfl,rfl⟩
     ·have c1:¬ (nm.size:Int)<1:=by omega
      have c2:¬ (32:Int)<(nm.size:Int):=by omega
      have F:=hide_ (NO.out rfl)
      go_wp2
      go_ret
      exact ⟨by rw [F.out];rfl,rfl⟩
     ·have c1:¬ (nm.size:Int)<1:=by omega
      have c2:¬ (32:Int)<(nm.size:Int):=by omega
      have F:=hide_ (YES.out rfl)
      go_wp2
      go_round
      case rel=>exact ⟨m+1+1,by omega,by go_num,F⟩
      case measure=>simp [intOf] <;> omega
   ·have hend:k=n:=by omega
    have F:=hide_ (show nmsR l=true by rw [E.out];exact nmsB_all fun t ht=>HA.out t (by rw [hend,HN.out];exact ht))
    clear hend
    go_wp2
    go_ret
    exact ⟨by rw [F.out];rfl,rfl⟩
set_option maxHeartbeats 4000000 in
theorem rChkI_any (x:ImgV) (s:ImgS) (w:World) (hx:ImgOk x) (hr:ImgR w w.heap.size x s):Calls Tryz.prog 42 #[.agg (imgV x s)] w fun e w'=>e=.returned (.int .i64 (imgChk x))∧Below w.heap.size w w':=by
 obtain ⟨l1,l2,l3,l4⟩:=hx.lens
 obtain ⟨k0,k1⟩:=hx.stack
 have HC:=hide_ hr.rc
 have HCO:=hide_ hx.code
 have HNR:=hide_ hr.rn
 have HNS:=hide_ (fun t ht=>(hx.names t ht).1)
 have HWH:=hide_ (fun W=>whole_any x s W hx)
 obtain ⟨W1,hW1⟩:∃ W,W=w.alloc (.cells (imgV x s) 28):=⟨_,rfl⟩
 have HB1:=hide_ (show Below w.heap.size w W1 by rw [hW1];exact (Below.refl _ _).alloc (Nat.le_refl _) _)
 have HK1:=hide_ (show Blk W1 w.heap.size 28 (imgV x s) by rw [hW1];exact Blk.new w _ _)
 have hlt0:w.heap.size<W1.heap.size:=by rw [hW1];simp
 have HAT:=hide_ (fun W (hb:Below W1.heap.size W1 W)=>img_cells (HK1.out.below hb hlt0))
 have FIN:=hide_ (fun W (hb:Below W1.heap.size W1 W)=>show Below w.heap.size w W from HB1.out.trans (hb.mono (by omega)))
 have HRC:=hide_ (fun W (hb:Below W1.heap.size W1 W)=>HC.out.below (FIN.out W hb))
 have HRN:=hide_ (fun W (hb:Below W1.heap.size W1 W)=>(HNR.out.below (FIN.out W hb)).more (by have:=hb.size;omega:w.heap.size≤W.heap.size))
 clear HC HNR hr hx HK1 HB1
 unfold imgV at hW1 HWH ⊢
 obtain ⟨⟨cA,cc⟩,⟨jA,jc⟩,⟨dA,dc⟩,⟨nA,nc⟩⟩:=s
 dsimp only at hW1 HAT HRC HRN HWH ⊢
 go_enter Tryz.func42,Tryz.ntmps42
 go_upto_region 1 with (fail)
 rw [← hW1]
 clear hW1
 have HBW:=hide_ (Below.refl W1.heap.size W1)
 obtain ⟨f0,f1,f2,f3,f4,f5⟩:=HAT.out W1 HBW.out
 by_cases n1:16384<x.code.length
 ·have g1':(16384:Int)<(x.code.length:Int):=by omega
  have E:=hide_ (ic_73 n1)
  go_wp2
  go_ret
  exact ⟨by rw [E.out];rfl,FIN.out _ HBW.out⟩
 ·have g1:¬ (16384:Int)<(x.code.length:Int):=by omega
  have N1:=hide_ n1
  clear n1
  go_wp2_with fail
  clear f0 f1 f2 f3 f4 f5
  go_loopw [3] (fun i wr=>∃ k:Nat,k≤x.code.length∧i=.int .i64 k∧Hid (Below W1.heap.size W1 wr)∧Hid (codChk x.code=codChk (x.code.drop k))) (fun i _=>x.code.length - (intOf i).toNat)
  case atStart=>exact ⟨0,Nat.zero_le _,rfl,HBW,hide_ rfl⟩
  case round =>
   clear HBW
   obtain ⟨k,hk,rfl,HB,HK⟩:=hrel
   obtain ⟨f0,f1,f2,f3,f4,f5⟩:=HAT.out wr HB.out
   by_cases hlt:k<x.code.length
   ·obtain ⟨t,ht⟩:∃ t,x.code[k]?=some t:=⟨_,List.getElem?_eq_getElem hlt⟩
    have STEP:=hide_ (HK.out.trans (codChk_at ht))
    obtain ⟨⟨o0,o1⟩,a0,a1⟩:=HCO.out t (List.mem_of_getElem? ht)
    obtain ⟨_,ad,rfl,hbk,p0,p1⟩:=el_cells cE_len (HRC.out _ HB.out) (by omega) ht
    have q0:=p0 _ rfl
    have q1:=p1 1 _ (by omega) rfl
    obtain ⟨op,arg⟩:=t
    dsimp only at q0 q1 STEP o0 o1
    have HCK:=hide_ (fun W=>rCheck_any op arg o0 o1 W)
    obtain ⟨v,hv⟩:∃ v,v=opChk op arg:=⟨_,rfl⟩
    rw [← hv] at HCK STEP
    clear hv p0 p1 ht
    go_wp2_with fail
    refine (HCK.out _).mono ?_
    rintro e w2 ⟨rfl,hb2⟩
    have HB2:=hide_ (show Below W1.heap.size W1 w2 from HB.out.trans (hb2.mono HB.out.size))
    clear hb2 q0 q1 f0 f1 f2 f3 f4 f5
    by_cases hv:v=0
    ·subst hv
     have STEP2:=hide_ (STEP.out.trans (if_pos rfl))
     go_wp2
     go_roundw
     case rel=>exact ⟨k+1,by omega,by go_num,HB2,STEP2⟩
     case measure=>simp [intOf] <;> omega
    ·have hv2:(v != 0)=true:=by simpa using hv
     have E:=hide_ (show imgChk x=v by
      have e:codChk x.code=v:=STEP.out.trans (if_neg hv)
      rw [ic_code N1.out (by rw [e];exact hv),e])
     go_wp2
     go_ret
     exact ⟨by rw [E.out];rfl,FIN.out _ HB2.out⟩
   ·have hend:k=x.code.length:=by omega
    have H0:=hide_ (show codChk x.code=0 by rw [HK.out,hend,List.drop_length];rfl)
    clear hend
    by_cases n2:16384<x.jumps.length
    ·have g2:(16384:Int)<(x.jumps.length:Int):=by omega
     have E:=hide_ (ic_86 N1.out H0.out n2)
     go_wp2
     go_ret
     exact ⟨by rw [E.out];rfl,FIN.out _ HB.out⟩
    ·have g2:¬ (16384:Int)<(x.jumps.length:Int):=by omega
     have N2:=hide_ n2
     clear n2
     have HSM:=hide_ (fun W=>stacks_any x.stack W k0 k1)
     have HNM:=hide_ (fun W hb=>rnames_any x.names nA nc W (HRN.out W hb) l4 HNS.out)
     obtain ⟨b,hb⟩:∃ b,b=stkB x.stack:=⟨_,rfl⟩
     obtain ⟨m,hm⟩:∃ m,m=roomOf x:=⟨_,rfl⟩
     obtain ⟨q,hq⟩:∃ q,q=nmsR x.names:=⟨_,rfl⟩
     rw [← hb] at HSM
     rw [← hm] at HWH
     rw [← hq] at HNM
     have HBM:=hide_ (And.intro hb (And.intro hm hq))
     clear hb hm hq
     by_cases hb:b=true
     ·subst hb
      have MORE:=hide_ (fun w3 (h:Below wr.heap.size wr w3)=>show Below W1.heap.size W1 w3 from HB.out.trans (h.mono HB.out.size))
      by_cases n3:65536<m
      ·have E:=hide_ (ic_85 N1.out H0.out N2.out (.inr (by rw [← HBM.out.2.1];exact n3)))
       go_wp2_with (first | (go_at_call 77;refine (HSM.out _).mono ?_;rintro e w3 ⟨rfl,rfl⟩))
       refine (HWH.out _).mono ?_
       rintro e w3 ⟨rfl,hb3⟩
       have HB3:=hide_ (MORE.out _ hb3)
       clear hb3 f0 f1 f2 f3 f4 f5
       go_wp2
       go_ret
       exact ⟨by rw [E.out];rfl,FIN.out _ HB3.out⟩
      ·have N3:=hide_ (And.intro HBM.out.1.symm (show ¬ 65536<roomOf x by rw [← HBM.out.2.1];exact n3))
       go_wp2_with (first | (go_at_call 77;refine (HSM.out _).mono ?_;rintro e w3 ⟨rfl,rfl⟩))
       refine (HWH.out _).mono ?_
       rintro e w3 ⟨rfl,hb3⟩
       have HB3:=hide_ (MORE.out _ hb3)
       clear hb3 f0 f1 f2 f3 f4 f5
       obtain ⟨f0,f1,f2,f3,f4,f5⟩:=HAT.out _ HB3.out
       cases q with
       | false =>
        have E:=hide_ (ic_87 N1.out H0.out N2.out N3.out.1 (by have:=N3.out.2;omega) (by
         have h:=HBM.out.2.2.symm
         unfold nmsR at h
         rcases Bool.and_eq_false_iff.1 h with h | h
         ·exact .inl (by have:=of_decide_eq_false h;omega)
         ·exact .inr h))
        go_wp2_with fail
        refine (HNM.out _ HB3.out).mono ?_
        rintro e w4 ⟨rfl,rfl⟩
        go_wp2
        go_ret
        exact ⟨by rw [E.out];rfl,FIN.out _ HB3.out⟩
       | true =>
        have E:=hide_ (show imgChk x=0 by
         have h:=HBM.out.2.2.symm
         unfold nmsR at h
         rw [Bool.and_eq_true] at h
         exact ic_0 N1.out H0.out N2.out N3.out.1 (by have:=N3.out.2;omega) (by have:=of_decide_eq_true h.1;omega) h.2)
        go_wp2_with fail
        refine (HNM.out _ HB3.out).mono ?_
        rintro e w4 ⟨rfl,rfl⟩
        go_wp2
        go_ret
        exact ⟨by rw [E.out];rfl,FIN.out _ HB3.out⟩
     ·have hb0:b=false:=by simpa using hb
      subst hb0
      have E:=hide_ (ic_85 N1.out H0.out N2.out (.inl HBM.out.1.symm))
      go_wp2_with (first | (go_at_call 77;refine (HSM.out _).mono ?_;rintro e w3 ⟨rfl,rfl⟩))
      go_ret
      exact ⟨by rw [E.out];rfl,FIN.out _ HB.out⟩
end Go.Proofs.YtikbegmodacopaaGreatDoor
