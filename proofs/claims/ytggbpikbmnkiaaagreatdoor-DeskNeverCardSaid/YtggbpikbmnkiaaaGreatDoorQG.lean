/- Part of the proof that this claim's law answers true, whatever its arguments. Condition: the laid variables hold what their initialisers lay (the card ties that to the program's text). -/
import Derived.WalkKit
import Derived.ProofKit
import Derived.OpenShut
import Derived.Deep.DeepHandedRow
import Derived.Lib.LaidTab
import Derived.LaidHandle
import Derived.Test.YtggbpikbmnkiaaaGreatDoorCards
import Derived.WideKeyArgs
import Derived.Laws.BitsLemmas
import Derived.Lib.DecodeN
import Derived.Laws.Cover4
import Derived.Laws.IdiomStrings
import Derived.Lib.Tables
import Derived.Test.YtggbpikbmnkiaaaGreatDoorQF
set_option maxRecDepth 10000
set_option linter.unusedVariables false
set_option linter.unusedSimpArgs false
open Go.Proofs.Tryz renaming underlying3→Un3,underlying4→Un4,underlying9→Un9,underlying20→Un20,underlying21→Un21,underlying22→Un22,underlying24→Un24,underlying25→Un25,underlying29→Un29,underlying31→Un31,underlying32→Un32,underlying34→Un34,underlying36→Un36,underlying37→Un37,underlying38→Un38,underlying40→Un40,underlying43→Un43,underlying44→Un44,underlying45→Un45,underlying47→Un47,underlying49→Un49,underlying53→Un53,underlying58→Un58,underlying60→Un60,underlying63→Un63,underlying74→Un74,underlying77→Un77,underlying83→Un83,underlying85→Un85,underlying113→Un113,underlying115→Un115,underlying117→Un117,underlying120→Un120,underlying122→Un122,underlying134→Un134,underlying135→Un135,underlying137→Un137,underlying141→Un141,underlying148→Un148,underlying150→Un150,underlying153→Un153,underlying155→Un155,underlying159→Un159,underlying163→Un163,underlying166→Un166,underlying169→Un169,underlying171→Un171,underlying172→Un172,underlying174→Un174,underlying193→Un193,underlying199→Un199,underlying200→Un200,underlying202→Un202,underlying209→Un209,underlying222→Un222
namespace Go.Proofs.YtggbpikbmnkiaaaGreatDoor
open Go Go.GW Go.ChangeShapes Go.WideShapes Go.ChangeAt Go.RowKit
theorem gBars : Tryz.prog.globalNamed "redraft/utext.bars" = some 1 := by kernel_rfl
theorem gBarsT:(Tryz.prog.globals[1]?).map (·.type)=some 200:=by kernel_rfl
theorem gWords : Tryz.prog.globalNamed "redraft/redraftlaw08.words" = some 0 := by kernel_rfl
theorem gWordsT:(Tryz.prog.globals[0]?).map (·.type)=some 113:=by kernel_rfl
theorem cells113:Tryz.prog.cellsOf 113=6:=by kernel_rfl
theorem cells9:Tryz.prog.cellsOf 9=1:=by kernel_rfl
theorem cells200:Tryz.prog.cellsOf 200=10:=by kernel_rfl
theorem cells199:Tryz.prog.cellsOf 199=2:=by kernel_rfl
theorem cells21:Tryz.prog.cellsOf 21=1:=by kernel_rfl
section
variable {H:Type} {enc:TypeId×Value→H} {w:World} {base:Nat} {sp:Nat→Bool} {held:Bool} {fuel:Nat}
theorem Ja6 {cs:List Value} {x:DataW H×List MemPlace} {lo hi:Int} (h:DataW.trod enc Tryz.prog w base sp held fuel 199 cs=some x) (hx:x.1= .agg [.lit (.int .i32 lo), .lit (.int .i32 hi)]):cs= [.int .i32 lo, .int .i32 hi] :=by
 obtain ⟨y0,y1,n,rfl,hl,h0,h1⟩:=trod_struct2 Un199 h
 rw [cells199] at hl
 obtain ⟨n0,e0,rfl,_⟩:=DataW.trod_int Un21 h0
 obtain ⟨n1,e1,rfl,_⟩:=DataW.trod_int Un21 h1
 simp only [DataW.agg.injEq,List.cons.injEq,DataW.lit.injEq,Lit.int.injEq,true_and,and_true] at hx
 obtain ⟨rfl,rfl⟩:=hx
 rw [cells21] at e0 e1
 clear h h0 h1
 rcases cs with _ | ⟨a,_ | ⟨b,_ | ⟨c,cs⟩⟩⟩
 ·cases hl
 ·cases hl
 ·have a0: [a] = [Value.int .i32 n0] :=e0
  have a1: [b] = [Value.int .i32 n1] :=e1
  rw [List.singleton_inj.1 a0,List.singleton_inj.1 a1]
 ·simp at hl
theorem bars_cells {cs:List Value} {p:List MemPlace} (h:DataW.trod enc Tryz.prog w base sp held fuel 200 cs=some (Rows.laid_redraft_utext_bars,p)):cs=barC:=by
 cases fuel with
 | zero=>simp [DataW.trod] at h
 | succ fuel=>
  simp only [DataW.trod,Un200,cells200,cells199] at h
  split at h
  ·rename_i hl
   obtain ⟨xs,hm,hx⟩:=Option.map_eq_some_iff.1 h
   have hxs:xs.map (·.1)= [.agg [.lit (.int .i32 0), .lit (.int .i32 8)], .agg [.lit (.int .i32 11), .lit (.int .i32 31)], .agg [.lit (.int .i32 127), .lit (.int .i32 159)], .agg [.lit (.int .i32 64976), .lit (.int .i32 65007)], .agg [.lit (.int .i32 65279), .lit (.int .i32 65279)]] :=by
    have:=congrArg Prod.fst hx
    simpa [Rows.laid_redraft_utext_bars] using this
   have key: ∀(i:Nat) (hi:i<5) (lo hi':Int),(xs.map (·.1))[i]? =some (.agg [.lit (.int .i32 lo), .lit (.int .i32 hi')])→(cs.drop (i*2)).take 2= [.int .i32 lo, .int .i32 hi'] :=by
    intro i hi lo hi' he
    obtain ⟨b,hb,hf⟩:=Lib.mapM_at hm i i (by simp [hi])
    rw [List.getElem?_map,hb] at he
    exact Ja6 hf (Option.some.inj he)
   have k0:=key 0 (by decide) 0 8 (by rw [hxs];rfl)
   have k1:=key 1 (by decide) 11 31 (by rw [hxs];rfl)
   have k2:=key 2 (by decide) 127 159 (by rw [hxs];rfl)
   have k3:=key 3 (by decide) 64976 65007 (by rw [hxs];rfl)
   have k4:=key 4 (by decide) 65279 65279 (by rw [hxs];rfl)
   clear h hm hx hxs key
   revert k0 k1 k2 k3 k4
   match cs,hl with
   | [c0,c1,c2,c3,c4,c5,c6,c7,c8,c9],_=>
    intro k0 k1 k2 k3 k4
    simp at k0 k1 k2 k3 k4
    obtain ⟨rfl,rfl⟩:=k0
    obtain ⟨rfl,rfl⟩:=k1
    obtain ⟨rfl,rfl⟩:=k2
    obtain ⟨rfl,rfl⟩:=k3
    obtain ⟨rfl,rfl⟩:=k4
    rfl
  ·cases h
theorem words_cells {cs:List Value} {p:List MemPlace} (h:DataW.trod enc Tryz.prog w base sp held fuel 113 cs=some (Rows.laid_redraft_redraftlaw08_words,p)):cs=wordsC:=by
 cases fuel with
 | zero=>simp [DataW.trod] at h
 | succ fuel=>
  simp only [DataW.trod,Un113,cells113,cells9] at h
  split at h
  ·rename_i hl
   obtain ⟨xs,hm,hx⟩:=Option.map_eq_some_iff.1 h
   have hxs:xs.map (·.1)=wordsL.map fun s=> .lit (.string s.data.toList):=by
    have:=congrArg Prod.fst hx
    simpa [Rows.laid_redraft_redraftlaw08_words,wordsL] using this
   have key: ∀(i:Nat) (hi:i<6),(cs.drop (i*1)).take 1= [.string (wordA i)] :=by
    intro i hi
    obtain ⟨b,hb,hf⟩:=Lib.mapM_at hm i i (by simp [hi])
    obtain ⟨s,hs,hbx,_⟩:=DataW.trod_string Un9 hf
    have e:(xs.map (·.1))[i]? =some (.lit (.string s.data.toList)):=by rw [List.getElem?_map,hb,hbx];rfl
    have hwl:i<wordsL.length:=hi
    rw [hxs,List.getElem?_map,List.getElem?_eq_getElem hwl] at e
    have e2:wordsL[i].data.toList=s.data.toList:=by simpa using e
    have e3:wordsL[i] =s:=by
     have:wordsL[i].data=s.data:=Array.ext' e2
     cases hq:wordsL[i];cases s;simp_all
    rw [hs,←e3]
    have:wordA i=wordsL[i] :=by unfold wordA;rw [List.getD_eq_getElem?_getD,List.getElem?_eq_getElem hwl];rfl
    rw [this]
   have k0:=key 0 (by decide)
   have k1:=key 1 (by decide)
   have k2:=key 2 (by decide)
   have k3:=key 3 (by decide)
   have k4:=key 4 (by decide)
   have k5:=key 5 (by decide)
   clear h hm hx hxs key
   revert k0 k1 k2 k3 k4 k5
   match cs,hl with
   | [c0,c1,c2,c3,c4,c5],_=>
    intro k0 k1 k2 k3 k4 k5
    simp at k0 k1 k2 k3 k4 k5
    rw [k0,k1,k2,k3,k4,k5]
    rfl
  ·cases h
end
theorem EZ {W:World} {g:Nat} {n:String} {cs:Array Value} (hg:Tryz.prog.globalNamed n=some g) (hvar:W.var? Tryz.prog n=some cs) {C:List Value} (hc:cs.toList=C) {v0:Value} (hC:C[0]? =some v0):CellsAt W g 0 C∧g<W.heap.size:=by
 have hcell: ∀j v,C[j]? =some v→W.cell? ⟨g,j,none⟩=some v:=fun j v hj=>by
  have h1:=World.var?_cell hg hvar j
  rw [h1]
  rw [←hc] at hj
  simpa using hj
 have h0:=hcell 0 _ hC
 unfold World.cell? at h0
 cases hb:W.heap[g]? with
 | none=>rw [hb] at h0;cases h0
 | some o=>
  refine ⟨?_,(Array.getElem?_eq_some_iff.1 hb).1⟩
  cases o with
  | cells c T fr=>
   refine ⟨c,T,fr,hb,fun j v hj=> ?_⟩
   have:=hcell j v hj
   unfold World.cell? at this
   rw [hb] at this
   simpa using this
  | _=>rw [hb] at h0;cases h0
theorem Ja0 {W : World} (h : laidMetH Tryz.prog [("errors.errorType", Rows.laid_errors_errorType), ("redraft/utext.bars", Rows.laid_redraft_utext_bars), ("redraft/redraftlaw08.words", Rows.laid_redraft_redraftlaw08_words)] W) : (CellsAt W 1 0 barC ∧ 1 < W.heap.size) ∧ CellsAt W 0 0 wordsC ∧ 0 < W.heap.size := by
 have h' : laidMet Tryz.prog [("redraft/utext.bars", Rows.laid_redraft_utext_bars), ("redraft/redraftlaw08.words", Rows.laid_redraft_redraftlaw08_words)] W ∧ handlesMet Tryz.prog [("errors.errorType", Rows.laid_errors_errorType)] W := h
 obtain ⟨ps,⟨g',t',cs,fuel,p,q,hg',ht',hvar,hd,⟨g2,t2,cs2,fuel2,p2,q2,hg2,ht2,hvar2,hd2,_,_⟩,_⟩,_⟩:=h'.1
 obtain rfl:=Option.some.inj (gBars.symm.trans hg')
 obtain rfl:=Option.some.inj (gBarsT.symm.trans ht')
 obtain rfl:=Option.some.inj (gWords.symm.trans hg2)
 obtain rfl:=Option.some.inj (gWordsT.symm.trans ht2)
 exact ⟨EZ gBars hvar (bars_cells hd) V,EZ gWords hvar2 (words_cells hd2) V⟩
theorem Ja1 {W W':World} {Z':Nat→Prop} (h:(NearF W (fun b=>b<W.heap.size)).holds Z' W') (may:MemPlace→Prop):W.keptBut W' may:=by
 refine ⟨h.2.1,h.2.2.2,fun i hi=> ?_⟩
 rw [(h.1 i hi).2]
 cases W.heap[i]? with
 | none=>rfl
 | some o=>cases o<;>first | rfl | exact ⟨rfl,rfl,rfl,fun _ _=>rfl⟩ | exact .inr ⟨rfl,rfl⟩
theorem Jb7 {W:World} {As:List Fact} (h: ∀A∈As,A.holds (fun b=>b<W.heap.size) W):St (fun b=>b<W.heap.size) W [] (As++ [NearF W (fun b=>b<W.heap.size)]):=
 ⟨fun _ h=>h,by simp,by simp,fun A hA=>by
  rcases List.mem_append.1 hA with hA | hA
  ·exact h A hA
  ·rw [List.mem_singleton.1 hA];exact ⟨fun b hb=>⟨hb,rfl⟩,rfl,rfl,rfl⟩⟩
theorem post_plain {H:Type} {enc:TypeId×Value→H} {P:Program} {f:Func} {s:ChangeSpec} {apart fresh handsOn:Bool} {W W':World} {args:Array Value} {v:Value} {ds gs:List (DataW H)} {before pa pv:List MemPlace}
  (hW:DataW.Whole enc P f.params.toList s.vars apart W args.toList ds gs before)
  (hres: ∀(b:Nat) (sp:Nat→Bool) (hd:Bool),DataW.TrodAll enc P W' b sp hd f.resultTypes.toList (v.resultList f.resultTypes.size) (s.fn H (ds++gs)).results [])
  (hargs: ∀sp:Nat→Bool,(∀p∈before,sp p.block=true)→DataW.TrodAll enc P W' 0 sp true f.params.toList args.toList (s.fn H (ds++gs)).args pa)
  (hvars: ∀sp:Nat→Bool,(∀p∈before,sp p.block=true)→DataW.TrodVars enc P W' sp s.vars (s.fn H (ds++gs)).vars pv)
  (hps:before=pa++pv) (hk:W.keptBut W' (· ∈before)):s.post enc P f apart fresh handsOn false W args v W':=by
 have hold: ∀p∈before,(fun b=>decide (b<W.heap.size)) p.block=true:=fun p hp=>by simpa using hW.lt p hp
 refine ⟨ds,gs,before,[],pa,pv,hW,hres _ _ _,hargs _ hold,hvars _ hold,World.keptBut_mono (fun p hp=>⟨hp,?_⟩) hk,fun h=>by cases h⟩
 rw [hps,List.mem_append] at hp
 exact Or.inr hp
end Go.Proofs.YtggbpikbmnkiaaaGreatDoor
namespace Go.GW
open Go
section
variable {H:Type} {enc:TypeId×Value→H} {P:Program} {w:World} {sp:Nat→Bool} {held:Bool}
theorem add_cell {a:Addr} {k:Nat} {v:Value} (h:w.cell? (a.add k)=some v) (hs:a.spot=none):w.cell? ⟨a.block,a.off+k,none⟩=some v:=by
 obtain ⟨b,o,s⟩:=a
 simp only at hs
 subst hs
 rwa [KX] at h
theorem Ja8 (a:Addr) (i j:Nat):(a.add i).add j=a.add (i+j):=by
 unfold Addr.add
 by_cases h1:i=0
 ·subst h1;simp
 ·by_cases h2:j=0
  ·subst h2;simp [h1]
  ·have h3:i+j≠0:=by omega
   simp [h1,h2,h3,Nat.add_assoc]
theorem rd_slice {α:Type} {e:De α} {T E:TypeId} (hu:P.underlying T=some (.slice E)) (hsz:P.cellsOf E=e.sz) (h0:0<e.sz)
  (hel: ∀(m:Nat) (cs:List Value) (x:DataW H×List MemPlace),DataW.trod enc P w 0 sp held m E cs=some x→ ∃u:α,∀Z w',e.rep Z w' u cs)
  {Av:Option Addr} {lv cv n:Nat} {x:DataW H×List MemPlace} (hn:DataW.trod enc P w 0 sp held n T [.slice Av lv cv] =some x): ∃xs:List α,xs.length=lv∧(RdF e Av cv xs).holds (fun b=>b<w.heap.size) w:=by
 rcases DataW.trod_slice hu hn with ⟨h1,_⟩ | ⟨a,len,cap,elems,rest,m,_,h1,_,_,hlc,hcm,hlen,hget,_,_⟩
 ·simp only [List.cons.injEq,and_true] at h1
  obtain ⟨rfl,rfl,rfl⟩:=Value.slice.inj h1
  exact ⟨[],V,RdS.nil _ _ _⟩
 ·simp only [List.cons.injEq,and_true] at h1
  obtain ⟨rfl,rfl,rfl⟩:=Value.slice.inj h1
  rw [hsz] at hget
  have key: ∀i:Fin lv,∃u:α,∃cs:List Value,(∀Z w',e.rep Z w' u cs)∧cs.length=e.sz∧ ∀(k:Nat) (x:Value),cs[k]? =some x→w.cell? (a.add (i.val*e.sz+k))=some x:=by
   intro i
   have h2:=hget i.val i.isLt
   have h3:i.val<elems.length:=by omega
   rw [List.getElem?_eq_getElem h3] at h2
   obtain ⟨cs,h4,h5⟩:=Option.bind_eq_some_iff.1 h2
   obtain ⟨u,hu'⟩:=hel m cs _ h5
   unfold World.cells? at h4
   split at h4
   ·refine ⟨u,cs,hu',?_,fun k x hk=> ?_⟩
    ·have:=mapM_some_length h4;simpa using this
    ·have hlt:k<cs.length:=by
      rcases Nat.lt_or_ge k cs.length with h | h
      ·exact h
      ·rw [List.getElem?_eq_none h] at hk;cases hk
     have hl:=mapM_some_length h4
     rw [List.length_range] at hl
     have:=mapM_some_get h4 k k (by rw [List.getElem?_range (by omega)])
     rw [hk,Ja8] at this
     exact this
   ·cases h4
  by_cases hz:lv=0
  ·subst hz
   exact ⟨[],rfl,Nat.zero_le _,hcm, .inl ⟨rfl,fun h=>by cases h⟩⟩
  ·obtain ⟨f,g,hf1,hf2,hf3⟩: ∃(f:Fin lv→α) (g:Fin lv→List Value),(∀i Z w',e.rep Z w' (f i) (g i))∧(∀i,(g i).length=e.sz)∧ ∀i (k:Nat) (x:Value),(g i)[k]? =some x→w.cell? (a.add (i.val*e.sz+k))=some x:=
    ⟨fun i=>Classical.choose (key i),fun i=>Classical.choose (Classical.choose_spec (key i)),fun i=>(Classical.choose_spec (Classical.choose_spec (key i))).1,fun i=>(Classical.choose_spec (Classical.choose_spec (key i))).2.1,fun i=>(Classical.choose_spec (Classical.choose_spec (key i))).2.2⟩
   have hspot:a.spot=none∧ ∃full T fr,w.heap[a.block]? =some (.cells full T fr):=by
    have i0:0<lv:=by omega
    have h4:=hf2 ⟨0,i0⟩
    have h5: ∃x,(g ⟨0,i0⟩)[0]? =some x:=⟨_,List.getElem?_eq_getElem (by omega)⟩
    obtain ⟨x,hx⟩:=h5
    have h6:=hf3 ⟨0,i0⟩ 0 x hx
    simp only [Nat.zero_mul,Nat.zero_add] at h6
    have h7:a.add 0=a:=by unfold Addr.add;simp
    rw [h7] at h6
    unfold World.cell? at h6
    split at h6
    ·rename_i c T fr heq
     split at h6
     ·cases h6
     ·rename_i hs
      refine ⟨?_,_,_,_,heq⟩
      cases hq:a.spot with
      | none=>rfl
      | some s=>rw [hq] at hs;simp at hs
    ·cases h6
   obtain ⟨hs,full,T',fr,hblk⟩:=hspot
   have hxl:(List.ofFn f).length=lv:=by simp
   refine ⟨List.ofFn f,hxl,by rw [hxl];exact hlc,hcm, .inr ⟨a.block,a.off,List.ofFn g,?_,(Array.getElem?_eq_some_iff.1 hblk).1,?_,⟨full,T',fr,hblk,?_⟩⟩⟩
   ·obtain ⟨b,o,s⟩:=a
    simp only at hs
    subst hs;rfl
   ·have: ∀(n:Nat) (f':Fin n→α) (g':Fin n→List Value),(∀i,e.rep (fun b=>b<w.heap.size) w (f' i) (g' i))→Reps (e.rep (fun b=>b<w.heap.size) w) (List.ofFn f') (List.ofFn g'):=by
     intro n
     induction n with
     | zero=>intro f' g' _;simp;exact .nil
     | succ n ih=>intro f' g' h;rw [List.ofFn_succ,List.ofFn_succ];exact .cons (h 0) (ih _ _ fun i=>h i.succ)
    exact this lv f g fun i=>hf1 i _ _
   ·intro j x hj
    have hls: ∀cs∈List.ofFn g,cs.length=e.sz:=fun cs hcs=>by
     rw [List.mem_ofFn] at hcs
     obtain ⟨i,rfl⟩:=hcs
     exact hf2 i
    have hjl:j<(List.ofFn g).flatten.length:=by
     rcases Nat.lt_or_ge j (List.ofFn g).flatten.length with h | h
     ·exact h
     ·rw [List.getElem?_eq_none h] at hj;cases hj
    rw [YK hls,List.length_ofFn] at hjl
    have hq:j / e.sz<lv:=by rw [Nat.div_lt_iff_lt_mul h0];exact hjl
    have hr:j % e.sz<e.sz:=Nat.mod_lt _ h0
    have hjj:j / e.sz*e.sz+j % e.sz=j:=by rw [Nat.mul_comm];exact Nat.div_add_mod j e.sz
    have hgl:=hf2 ⟨j / e.sz,hq⟩
    have hy:(g ⟨j / e.sz,hq⟩)[j % e.sz]? =some ((g ⟨j / e.sz,hq⟩)[j % e.sz]'(by omega)):=List.getElem?_eq_getElem _
    have h8:=Es hls (j / e.sz) (g ⟨j / e.sz,hq⟩) (by rw [List.getElem?_ofFn];simp [hq]) (j % e.sz) _ hy
    rw [hjj,hj] at h8
    have h9:=hf3 ⟨j / e.sz,hq⟩ (j % e.sz) _ hy
    have h10:=add_cell h9 hs
    simp only at h10
    rw [hjj] at h10
    unfold World.cell? at h10
    simp only [hblk] at h10
    rw [Option.some.inj h8]
    simpa using h10
end
end Go.GW
namespace Go.Proofs.YtggbpikbmnkiaaaGreatDoor
open Go Go.GW
theorem cells93:Tryz.prog.cellsOf 74=6:=by kernel_rfl
theorem cells24:Tryz.prog.cellsOf 24=2:=by kernel_rfl
theorem cells22:Tryz.prog.cellsOf 22=1:=by kernel_rfl
theorem cells4:Tryz.prog.cellsOf 4=1:=by kernel_rfl
theorem cells3:Tryz.prog.cellsOf 3=1:=by kernel_rfl
section
variable {H:Type} {enc:TypeId×Value→H} {w:World} {base:Nat} {sp:Nat→Bool} {held:Bool}
set_option maxRecDepth 100000 in
theorem act_elem (m:Nat) (cs:List Value) (x:DataW H×List MemPlace) (h:DataW.trod enc Tryz.prog w base sp held m 74 cs=some x): ∃u:GAct,cs=actC u:=by
 obtain ⟨xs,k,rfl,rfl,hl,hlen,hf⟩:=DataW.trod_struct Un74 h
 rw [cells93] at hl
 have hxl:xs.length=6:=hlen
 match cs,hl with
 | [a,b,c,d,e,f],_=>
  have h0:=hf 0 _ rfl
  have h1:=hf 1 _ rfl
  have h2:=hf 2 _ rfl
  have h3:=hf 3 _ rfl
  have h4:=hf 4 _ rfl
  have h5:=hf 5 _ rfl
  rw [List.getElem?_eq_getElem (show 0<xs.length by omega)] at h0
  rw [List.getElem?_eq_getElem (show 1<xs.length by omega)] at h1
  rw [List.getElem?_eq_getElem (show 2<xs.length by omega)] at h2
  rw [List.getElem?_eq_getElem (show 3<xs.length by omega)] at h3
  rw [List.getElem?_eq_getElem (show 4<xs.length by omega)] at h4
  rw [List.getElem?_eq_getElem (show 5<xs.length by omega)] at h5
  simp [cells3,cells9,cells4] at h0 h1 h2 h3 h4 h5
  obtain ⟨n0,e0,_⟩:=DataW.trod_int Un3 h0
  obtain ⟨n1,e1,_⟩:=DataW.trod_int Un3 h1
  obtain ⟨n2,e2,_⟩:=DataW.trod_int Un3 h2
  obtain ⟨n3,e3,_⟩:=DataW.trod_int Un3 h3
  obtain ⟨n4,e4,_⟩:=DataW.trod_string Un9 h4
  obtain ⟨n5,e5,_⟩:=DataW.trod_bool Un4 h5
  simp at e0 e1 e2 e3 e4 e5
  rw [e0,e1,e2,e3,e4,e5]
  exact ⟨⟨n0,n1,n2,n3,n4,n5⟩,V⟩
set_option maxRecDepth 100000 in
theorem room_arg {r:Reach} {b0:Nat} {W0:World} {v:Value} {d:DataW H} {p:List MemPlace} (hval:Value.okWide Tryz.prog W0 r b0 24 v) (h:DataW.Trod enc Tryz.prog w 0 sp held 24 v d p):
  ∃(nd:Int) (A:Option Addr) (c:Nat) (acts:List GAct),v= .agg #[.int .i64 nd, .slice A acts.length c] ∧(RdF actD A c acts).holds (fun b=>b<w.heap.size) w:=by
 obtain ⟨n,hn⟩:=h
 have hv: ∃cs,v= .agg cs:=by
  unfold Value.okWide at hval
  rw [Un24] at hval
  obtain ⟨cs,rfl,_⟩:=hval
  exact ⟨cs,V⟩
 obtain ⟨cs,rfl⟩:=hv
 obtain ⟨y0,y1,n, -,hl,h0,h1⟩:=ChangeShapes.trod_struct2 Un24 hn
 rw [cells24] at hl
 dsimp only at h0 h1
 rw [cells3] at h0
 rw [cells22] at h1
 have hl2:cs.toList.length=2:=hl
 match hcs:cs.toList,hl2 with
 | [a,b],_=>
  have e0:(Value.agg cs).cells.toList= [a,b] :=hcs
  rw [e0] at h0 h1
  obtain ⟨n0,e1,_⟩:=DataW.trod_int Un3 h0
  have e1':a= .int .i64 n0:=by simpa using e1
  have h2:DataW.trod enc Tryz.prog w 0 sp held n 22 [b] =some y1:=h1
  have hb: ∃(A:Option Addr) (l c:Nat),b= .slice A l c:=by
   rcases DataW.trod_slice Un22 h2 with ⟨h3,_⟩ | ⟨a',len,cap,elems,rest,m,_,h3,_⟩
   ·exact ⟨none,0,0,List.singleton_inj.1 h3⟩
   ·exact ⟨some a',len,cap,List.singleton_inj.1 h3⟩
  obtain ⟨A,l,c,rfl⟩:=hb
  obtain ⟨acts,ha,hR⟩:=rd_slice (e:=actD) Un22 cells93 (by decide) (fun m cs x hx=>by obtain ⟨u,rfl⟩:=act_elem m cs x hx;exact ⟨u,fun _ _=>rfl⟩) h2
  subst ha
  refine ⟨n0,A,c,acts,?_,hR⟩
  have:cs= #[.int .i64 n0, .slice A acts.length c] :=by
   apply Array.ext'
   rw [hcs,e1']
  rw [this]
end
theorem Jar {W W':World} {Z':Nat→Prop} (h:(NearF W (fun b=>b<W.heap.size)).holds Z' W') {x:MemPlace} (hx:x.block<W.heap.size):W.sameAt W' x:=by
 have hb:=(h.1 x.block hx).2
 cases x with
 | cell b off=>
  have hb':W'.heap[b]? =W.heap[b]? :=hb
  show W'.cell? ⟨b,off,none⟩=W.cell? ⟨b,off,none⟩
  unfold World.cell?
  simp only [hb']
 | map b=>exact hb
theorem laidOk:laidOutB Tryz.prog=true:=by kernel_rfl
theorem _root_.Go.GW.Sp.monoF {P:Program} {k:FuncId} {args:List Value} {Lin:List Part} {pre:List Fact} {res res':Value→List Part→List Fact→Prop} (h:Sp P k args Lin pre res) (hr: ∀v Lo fs,res v Lo fs→ ∃fs',res' v Lo fs'∧ ∀A∈fs',A∈fs++pre):Sp P k args Lin pre res':=
 ⟨h.enters,fun Z w Ps As hs=>(h.calls Z w Ps As hs).mono fun e w' ⟨v,he,Z',Lo,fs,h1,h2⟩=>by
  obtain ⟨fs',h3,h4⟩:=hr v Lo fs h1
  exact ⟨v,he,Z',Lo,fs',h3,h2.subFacts fun A hA=>by
   rcases List.mem_append.1 hA with hA | hA
   ·rcases List.mem_append.1 (h4 A hA) with hA | hA
    ·exact List.mem_append_left _ hA
    ·exact List.mem_append_right _ (List.mem_append_left _ hA)
   ·exact List.mem_append_right _ hA⟩⟩
def ActR (M:DM) (D:DS):List Part→List Fact→Prop:=fun Lo fs=> ∃(M2:DM) (D2:DS),Acted D D2∧DV D2∧M2.d=M.d∧DkOk M2 D2∧Lo=KH M2 D2∧fs=KY M2 D2
structure Bd (D:DS):Prop where
 n:D.H.ops.length<700
 m:D.made<700∧(D.made:Int)+1<D.op
 c:5*(D.H.ops.length:Int)+5≤D.ce
theorem DV.nU {D:DS} (h:DV D):(D.u,(D.made:Int)+1)∉D.U:=fun hm=>by have:=h.sid _ (List.mem_append_left _ hm);simp only at this;omega
theorem DV.nR {D:DS} (h:DV D):(D.u,(D.made:Int)+1)∉D.R:=fun hm=>by have:=h.sid _ (List.mem_append_right _ hm);simp only at this;omega
theorem sid_more {D:DS} (h:DV D): ∀x∈D.U++D.R,x.2≤((D.made+1:Nat):Int):=fun x hx=>by have:=h.sid x hx;omega
theorem sid_did {D:DS} (h:DV D): ∀x∈(D.U++ [(D.u,(D.made:Int)+1)])++ [],x.2≤((D.made+1:Nat):Int):=fun x hx=>by
 rw [List.append_nil] at hx
 rcases List.mem_append.1 hx with hx | hx
 ·have:=h.sid x (List.mem_append_left _ hx);omega
 ·have:=List.mem_singleton.1 hx
  subst this
  show (D.made:Int)+1≤_;omega
theorem DV.insD {D:DS} (h:DV D) {k:Nat} {text:ByteArray} (M:MkD D (insO D k text)) (hu1:1≤(utF text).1∧(utF text).1≤5):DV (insD D k text)∧Acted D (insD D k text):=by
 have hw:Jr (insO D k text)=(utF text).1:=by unfold Jr;rw [if_pos (show (insO D k text).kind=1 from rfl)];rfl
 refine ⟨h.step M V V (by rw [hw];omega) V V V V (.inr (by rw [hw];rfl)) (sid_did h),V,⟨V,V,V⟩,V, .inr ⟨_,V,V,M.ops,V⟩⟩
theorem width_hide (D:DS) (rs:List Rg):Jr (hideO D rs)=0:=by unfold Jr;rw [if_neg (show ¬(hideO D rs).kind=1 by show ¬(2:Int)=1;decide)]
theorem width_stat (D:DS) (id:Id2) (on:Bool):Jr (statO D id on)=0:=by unfold Jr;rw [if_neg (show ¬(statO D id on).kind=1 by show ¬(4:Int)=1;decide)]
theorem DV.hideD {D:DS} (h:DV D) {rs:List Rg} (k:Nat) (M:MkD D (hideO D rs)):DV (hideD D rs k)∧Acted D (hideD D rs k):=
 ⟨h.step M rfl rfl (by rw [width_hide];omega) rfl rfl rfl rfl (.inl rfl) (sid_did h),rfl,⟨rfl,rfl,rfl⟩,rfl, .inr ⟨_,rfl,rfl,M.ops,rfl⟩⟩
theorem DV.statD {D:DS} (h:DV D) {id:Id2} {on:Bool} (j:Nat) (M:MkD D (statO D id on)):DV (statD D id on j)∧Acted D (statD D id on j):=
 ⟨h.step M rfl rfl (by rw [width_stat];omega) rfl rfl rfl rfl (.inl rfl) (sid_more h),rfl,⟨rfl,rfl,rfl⟩,rfl, .inr ⟨_,rfl,rfl,M.ops,rfl⟩⟩
theorem Acted.back {D D1 D2:DS} (h:Acted D1 D2) (hu:D1.u=D.u) (hl:D1.cl=D.cl∧D1.ce=D.ce∧D1.op=D.op) (hg:D1.got=D.got) (hH:D1.H=D.H) (hX:D1.X=D.X) (hm:D1.made=D.made):Acted D D2:=by
 obtain ⟨a1,a2,a3,a4⟩:=h
 rw [hu] at a1 a4
 rw [hl.1,hl.2.1,hl.2.2] at a2
 rw [hg] at a3
 rw [hH,hX,hm] at a4
 exact ⟨a1,a2,a3,a4⟩
theorem ZR {M2:DM} {D2:DS} {gs pre:List Fact} : ∀A∈KY M2 D2,A∈(KY M2 D2++gs)++pre:=fun A hA=>List.mem_append_left _ (List.mem_append_left _ hA)
theorem ins_a (M:DM) (D:DS) (ok:DkOk M D) (hv:DV D) (hb:Bd D) (p:Nat) (hp:p≤J8 D.X) (text:ByteArray) (hts:text.size≤1048576) (hu:(utF text).2.2=0) (hu1:1≤(utF text).1∧(utF text).1≤5):Sp Tryz.prog 18 [.pointer (some ⟨M.d,0,none⟩), .int .i64 p, .string text] (KH M D) (barF::KY M D) (fun v Lo fs=> ∃o:GOp,v= .tuple #[opV o none 0, .nilIface] ∧ActR M D Lo fs):=by
 have hpu:=hv.put_ D.u
 have hbm:=hb.m
 have hbn:=hb.n
 have hbc:=hb.c
 have hlm:=ok.lm
 have hmk: ∀k,Pth D.X p k→MkD D (insO D k text):=fun k hk=>(hv.insM (by omega) (by omega) hk hu (by omega)).1
 refine (insert_0 M D ok p hp text hts hu (by omega) (by omega) (by omega) hmk hv.nU hv.nR).mono ?_
 rintro v Lo fs ⟨k,M2,hk,hd,hok,rfl,rfl,rfl⟩
 obtain ⟨h1,h2⟩:=hv.insD (hmk k hk) hu1
 exact ⟨_,V,M2,_,h2,h1,hd,hok,V,V⟩
theorem del_a (M:DM) (D:DS) (ok:DkOk M D) (hv:DV D) (hb:Bd D) (p n:Nat) (hn0:0<n) (hpn:p+n≤J8 D.X):Sp Tryz.prog 19 [.pointer (some ⟨M.d,0,none⟩), .int .i64 p, .int .i64 n] (KH M D) (barF::KY M D) (fun v Lo fs=> ∃(o:GOp) (Ao:Option Addr) (co:Nat),v= .tuple #[opV o Ao co, .nilIface] ∧ActR M D Lo fs):=by
 have hbm:=hb.m
 have hbn:=hb.n
 have hlm:=ok.lm
 have hmk: ∀xs,VisR p n D.X xs→MkD D (hideO D xs)∧p≤J8 (JX (mkE D (hideO D xs)) D.X):=fun xs hx=>by
  obtain ⟨h1,h2⟩:=hv.hideM (by omega) (by omega) hn0 hpn hx
  refine ⟨h1,?_⟩
  rw [←KL,h2,List.length_append,List.length_take,KL];omega
 refine (delete_0 M D ok p n hn0 hpn (by omega) hmk hv.nU hv.nR).monoF ?_
 rintro v Lo fs ⟨xs,k,M2,A9,c9,hV,hB,hd,hok,rfl,rfl,rfl⟩
 obtain ⟨h1,h2⟩:=hv.hideD k (hmk xs hV).1
 exact ⟨_,⟨_,_,_,V,M2,_,h2,h1,hd,hok,V,V⟩,ZR⟩
theorem move_a (M:DM) (D:DS) (ok:DkOk M D) (hv:DV D) (hb:Bd D) (p:Nat) (hp:p≤J8 D.X):Sp Tryz.prog 63 [.pointer (some ⟨M.d,0,none⟩), .int .i64 p] (KH M D) (barF::KY M D) (fun v Lo fs=>v= .nilIface∧ActR M D Lo fs):=by
 refine (move_0 M D ok p hp).monoF ?_
 rintro v Lo fs ⟨k,hB,hok,rfl,rfl,rfl⟩
 exact ⟨_,⟨V,M,gapD D k,⟨V,⟨V,V,V⟩,V, .inl ⟨V,V,V⟩⟩,hv.turned V V V V V (fun x hx=>hx),V,hok,V,V⟩,fun A hA=> .tail _ hA⟩
theorem undo_a (M:DM) (D:DS) (ok:DkOk M D) (hv:DV D) (hb:Bd D):Sp Tryz.prog 22 [.pointer (some ⟨M.d,0,none⟩)] (KH M D) (barF::KY M D) (fun v Lo fs=>ActR M D Lo fs):=by
 have hbm:=hb.m
 have hbn:=hb.n
 have hlm:=ok.lm
 cases hx:(upF (JZ D.H true) D.U D.R).1 with
 | none=>
  refine (undo_n M D ok (by omega) hx).mono ?_
  rintro v Lo fs ⟨e,M2,_,hd,hok,rfl,rfl,rfl⟩
  exact ⟨M2,D,Acted.rfl' D,hv,hd,hok,V,V⟩
 | some id=>
  obtain ⟨k,hw,hk,h4,hoff⟩:=stand_true (Zn hx)
  have hv1:DV (undoD D):=hv.turned rfl rfl rfl rfl rfl (fun x hx=>by
   rcases List.mem_append.1 hx with hx | hx
   ·exact List.mem_append.2 (VL (.inl hx))
   ·exact List.mem_append.2 (VL (.inr hx)))
  have htu:TuD (undoD D) id.1 id.2 false k:=hv1.tud (by show D.made<1024;omega) (by show D.H.ops.length<900;omega) hw hk h4 false hoff
  refine (Zo M D ok (by omega) id.1 id.2 k hx htu).mono ?_
  rintro v Lo fs ⟨M2,hd,hok,rfl,rfl,rfl⟩
  obtain ⟨h1,h2⟩:=hv1.statD k htu.mkd
  exact ⟨M2,_,h2.back V ⟨V,V,V⟩ V V V V,h1,hd,hok,V,V⟩
theorem redo_a (M:DM) (D:DS) (ok:DkOk M D) (hv:DV D) (hb:Bd D):Sp Tryz.prog 62 [.pointer (some ⟨M.d,0,none⟩)] (KH M D) (barF::KY M D) (fun v Lo fs=>ActR M D Lo fs):=by
 have hbm:=hb.m
 have hbn:=hb.n
 have hlm:=ok.lm
 cases hx:(upF (JZ D.H false) D.R D.U).1 with
 | none=>
  refine (redo_n M D ok (by omega) hx).mono ?_
  rintro v Lo fs ⟨e,M2,_,hd,hok,rfl,rfl,rfl⟩
  exact ⟨M2,D,Acted.rfl' D,hv,hd,hok,V,V⟩
 | some id=>
  obtain ⟨k,hw,hk,h4,hoff⟩:=stand_true (Zn hx)
  have hv1:DV (redoD D):=hv.turned rfl rfl rfl rfl rfl (fun x hx=>by
   rcases List.mem_append.1 hx with hx | hx
   ·exact List.mem_append.2 ((VL (.inr hx)).symm)
   ·exact List.mem_append.2 ((VL (.inl hx)).symm))
  have htu:TuD (redoD D) id.1 id.2 true k:=hv1.tud (by show D.made<1024;omega) (by show D.H.ops.length<900;omega) hw hk h4 true hoff
  refine (Jbq M D ok (by omega) id.1 id.2 k hx htu).mono ?_
  rintro v Lo fs ⟨M2,hd,hok,rfl,rfl,rfl⟩
  obtain ⟨h1,h2⟩:=hv1.statD k htu.mkd
  exact ⟨M2,_,h2.back V ⟨V,V,V⟩ V V V V,h1,hd,hok,V,V⟩
theorem turn_a (M:DM) (D:DS) (ok:DkOk M D) (hv:DV D) (hb:Bd D) (i0 i1:Int) (on:Bool):Sp Tryz.prog 13 [.pointer (some ⟨M.d,0,none⟩), .agg #[.int .i64 i0, .int .i64 i1], .bool on] (KH M D) (barF::KY M D) (fun v Lo fs=>ActR M D Lo fs):=by
 have hbm:=hb.m
 have hbn:=hb.n
 have hlm:=ok.lm
 by_cases he:effE D.H (i0,i1) on=0
 ·obtain ⟨k,hw,hk,h4,hoff⟩: ∃k,J5 D.H.ents i0 i1=some k∧ ∃hk:k<D.H.ents.length,D.H.ents[k].op.kind≠4∧D.H.ents[k].off=on:=by
   cases hw:J5 D.H.ents i0 i1 with
   | none=>unfold effE at he;rw [hw] at he;cases he
   | some k=>
    obtain ⟨hk,_,_⟩:=KI hw
    unfold effE at he
    rw [hw] at he
    simp only [List.getElem?_eq_getElem hk] at he
    refine ⟨k,V,hk,?_⟩
    split at he
    ·cases he
    ·rename_i h4
     split at he
     ·rename_i ho;exact ⟨h4,ho⟩
     ·cases he
  have htu:=hv.tud (by omega) (by omega) hw hk h4 on hoff
  refine (turn_d M D ok (by omega) i0 i1 on k k hw hk h4 hoff htu).mono ?_
  rintro v Lo fs ⟨M2,hd,hok,rfl,rfl,rfl⟩
  obtain ⟨h1,h2⟩:=hv.statD k htu.mkd
  exact ⟨M2,_,h2,h1,hd,hok,V,V⟩
 ·refine (turn_e M D ok (by omega) i0 i1 on he).monoF ?_
  rintro v Lo fs ⟨e,_,rfl,rfl,rfl⟩
  exact ⟨_,⟨M,D,Acted.rfl' D,hv,V,ok,V,V⟩,fun A hA=> .tail _ hA⟩
theorem ZX (A B:List Ce) (rs:List Int):K5 [⟨(A.length:Nat),(A.length:Nat)+(rs.length:Nat)⟩] 1 (A++(cellsOf rs 0++B))=A++(cellsOf rs 1++B):=by
 show Vt _ _ _=_
 unfold Vt
 have e1:((A.length:Nat):Int).toNat=A.length:=Int.toNat_natCast _
 have e2:(((A.length:Nat):Int)+(rs.length:Nat)-(A.length:Nat)).toNat=rs.length:=by omega
 have e3:(((A.length:Nat):Int)+(rs.length:Nat)).toNat=(A++cellsOf rs 0).length:=by rw [List.length_append,Jv];omega
 simp only [e1,e2,e3]
 rw [List.take_left,List.drop_left,List.take_left' (Jv rs 0)]
 have e5:(A++(cellsOf rs 0++B)).drop (A++cellsOf rs 0).length=B:=by rw [←List.append_assoc,List.drop_left]
 rw [e5]
 have e4:up 1 (cellsOf rs 0)=cellsOf rs 1:=by unfold up cellsOf;rw [List.map_map];rfl
 rw [e4]
theorem HP (rs:List Int):KQ (cellsOf rs 1)= [] :=by
 unfold KQ cellsOf
 rw [List.filter_map,List.map_map]
 have:(rs.filter ((fun c:Ce=>decide (c.2=0)) ∘ fun c=>(c,1)))= [] :=by
  apply List.filter_eq_nil_iff.2
  intro a _;simp
 rw [this];rfl
structure UndoI (D:DS) (p k:Nat) (D3:DS) (j:Nat):Prop where
 hx:(upF (JZ D3.H true) D3.U D3.R).1=some (D.u,(D.made:Int)+1)
 tud:TuD (undoD D3) D.u ((D.made:Int)+1) false j
 vis:KQ (statD (undoD D3) (D.u,(D.made:Int)+1) false j).X=KQ D.X
 crt:J8 ((statD (undoD D3) (D.u,(D.made:Int)+1) false j).X.take (statD (undoD D3) (D.u,(D.made:Int)+1) false j).gap)=p
theorem ins_undo {D:DS} (hv:DV D) (hm:D.made<1000) (hn:D.H.ops.length<890) {p k:Nat} (hk:Pth D.X p k) {text:ByteArray} (hu:(utF text).2.2=0) (hu1:1≤(utF text).1∧(utF text).1≤5): ∃j,UndoI D p k (insD D k text) j:=by
 have g:=hv.ins (by omega) (by omega) hk.le hu (by omega)
 have M:=g.mkd hv.di (by omega)
 have ho:=Ky D.H
 have he:=(end_ins hv.di.hv (o:=insO D k text) (by rw [←ho];exact g) rfl).2
 rw [←ho] at he
 have hru:=Y7 hu
 have hw:Jr (insO D k text)=(Kq text).length:=by
  unfold Jr;rw [if_pos (show (insO D k text).kind=1 from rfl)];show (utF text).1=_;omega
 have he2:(insD D k text).H.ents=D.H.ents.map (shiftE (insO D k text).at_ (Jr (insO D k text)))++ [⟨insO D k text,[⟨(insO D k text).at_,(insO D k text).at_+Jr (insO D k text)⟩],false⟩] :=he
 have hv3:=(hv.insD M hu1).1
 have hj:D.H.ents.length<(insD D k text).H.ents.length:=by rw [he2];simp
 have hej:(insD D k text).H.ents[D.H.ents.length] =⟨insO D k text,[⟨(k:Int),(k:Int)+((Kq text).length:Nat)⟩],false⟩:=by
  simp only [he2]
  rw [List.getElem_append_right (by simp)]
  simp only [List.length_map,Nat.sub_self,List.getElem_cons_zero,hw]
  rfl
 have hwh:=Yg hv3.di.hv.ids hj
 have hc:((insD D k text).H.ents[D.H.ents.length]).op.c=D.u:=by rw [hej];rfl
 have hn2:((insD D k text).H.ents[D.H.ents.length]).op.n=(D.made:Int)+1:=by rw [hej];rfl
 rw [hc,hn2] at hwh
 have hk4:((insD D k text).H.ents[D.H.ents.length]).op.kind≠4:=by rw [hej];show (1:Int)≠4;decide
 have hoff:((insD D k text).H.ents[D.H.ents.length]).off=false:=by rw [hej]
 have hst:JZ (insD D k text).H true (D.u,(D.made:Int)+1)=true:=by
  rw [QZ hwh hj,hoff];simp [hk4]
 have hU:(insD D k text).U=D.U++ [(D.u,(D.made:Int)+1)] :=rfl
 have hpk:pickF (JZ (insD D k text).H true) (insD D k text).U=some (D.U.length,(D.u,(D.made:Int)+1)):=by
  rw [hU]
  have:=Gs (ok:=JZ (insD D k text).H true) (l:=D.U++ [(D.u,(D.made:Int)+1)]) (k:=D.U.length) (by simp) (by simpa using hst) (fun j hj hlt=>by simp at hj;omega)
  simpa using this
 have hx:(upF (JZ (insD D k text).H true) (insD D k text).U (insD D k text).R).1=some (D.u,(D.made:Int)+1):=by unfold upF;rw [hpk]
 have hv1:DV (undoD (insD D k text)):=hv3.turned rfl rfl rfl rfl rfl (fun x hx=>by
  rcases List.mem_append.1 hx with hx | hx
  ·exact List.mem_append.2 (VL (.inl hx))
  ·exact List.mem_append.2 (VL (.inr hx)))
 have hol:(insD D k text).H.ops.length=D.H.ops.length+1:=by
  show (mkH D (insO D k text)).ops.length=_
  rw [M.ops];simp
 have htu:TuD (undoD (insD D k text)) D.u ((D.made:Int)+1) false D.H.ents.length:=hv1.tud (by show D.made+1<1024;omega) (by show (insD D k text).H.ops.length<900;omega) hwh hj hk4 false hoff
 have g4:=hv1.stat (by show D.made+1<1024;omega) (by show (insD D k text).H.ops.length<900;omega) hwh hj hk4 false
 have hsr:=stat_row hv1.di g4 hj hwh hoff
 have hkl:(D.X.take k).length=k:=by rw [List.length_take];have:=hk.le;omega
 have hX3:(insD D k text).X=D.X.take k++(cellsOf (Kq text) 0++D.X.drop k):=ins_row hv.di g
 have hX4:(statD (undoD (insD D k text)) (D.u,(D.made:Int)+1) false D.H.ents.length).X=D.X.take k++(cellsOf (Kq text) 1++D.X.drop k):=by
  show JX _ _=_
  rw [hsr]
  show K5 ((insD D k text).H.ents[D.H.ents.length]).now _ (insD D k text).X=_
  rw [hX3]
  have hs:(if (decide (((undoD (insD D k text)).H.ents[D.H.ents.length]).op.kind=2)==false)=true then (1:Int) else -1)=1:=by
   have:((undoD (insD D k text)).H.ents[D.H.ents.length]).op.kind=1:=by show ((insD D k text).H.ents[D.H.ents.length]).op.kind=1;rw [hej];rfl
   rw [this];rfl
  rw [hs,hej]
  have:=ZX (D.X.take k) (D.X.drop k) (Kq text)
  rw [hkl] at this
  exact this
 have hgap:(statD (undoD (insD D k text)) (D.u,(D.made:Int)+1) false D.H.ents.length).gap=k:=by
  show turnGap _ (entryF (mkH (undoD (insD D k text)) (statO (undoD (insD D k text)) (D.u,(D.made:Int)+1) false)) (D.H.ents.length:Nat)).1 false=k
  rw [Ys htu.hj]
  have ho3:=Ky (undoD (insD D k text)).H
  have hee:=(end_stat hv1.di.hv (o:=statO (undoD (insD D k text)) (D.u,(D.made:Int)+1) false) (by rw [←ho3];exact g4) rfl hj hwh hoff).2
  rw [←ho3] at hee
  have hee2:(mkH (undoD (insD D k text)) (statO (undoD (insD D k text)) (D.u,(D.made:Int)+1) false)).ents=(insD D k text).H.ents.set D.H.ents.length (offE (insD D k text).H.ents[D.H.ents.length] true)++ [⟨statO (undoD (insD D k text)) (D.u,(D.made:Int)+1) false,[],false⟩] :=hee
  have hek:(mkH (undoD (insD D k text)) (statO (undoD (insD D k text)) (D.u,(D.made:Int)+1) false)).ents[D.H.ents.length]'htu.hj=offE (insD D k text).H.ents[D.H.ents.length] true:=by
   simp only [hee2]
   rw [List.getElem_append_left (by simpa using hj),List.getElem_set_self]
  rw [hek,hej]
  rfl
 refine ⟨D.H.ents.length,hx,htu,?_,?_⟩
 ·rw [hX4,K2,K2 (cellsOf _ _),HP,List.nil_append,←K2,List.take_append_drop]
 ·rw [hgap,hX4]
  conv=>lhs;arg 1;rw [show k=(D.X.take k).length from hkl.symm]
  rw [hkl,List.take_left' hkl,hk.ct]
def abcB:ByteArray:=⟨#[97,98,99]⟩
def xB:ByteArray:=⟨#[88]⟩
theorem ut_abc:utF abcB=(3,0,0):=by
 show utAt ⟨#[97,98,99]⟩ 0 0=_
 rw [Yi (r:=97) (w:=1) (by decide) (by decide) (by decide) (by decide),Yi (r:=98) (w:=1) (by decide) (by decide) (by decide) (by decide),Yi (r:=99) (w:=1) (by decide) (by decide) (by decide) (by decide),utAt_end (by decide)];rfl
theorem ut_x:utF xB=(1,0,0):=by
 show utAt ⟨#[88]⟩ 0 0=_
 rw [Yi (r:=88) (w:=1) (by decide) (by decide) (by decide) (by decide),utAt_end (by decide)];rfl
theorem rn_end {s:ByteArray} {p:Nat} (h: ¬p<s.size):runesAt s p= [] :=by rw [runesAt,dif_neg h]
theorem rn_abc:Kq abcB= [97,98,99] :=by
 show runesAt ⟨#[97,98,99]⟩ 0=_
 rw [X6 (r:=97) (w:=1) (by decide) (by decide),X6 (r:=98) (w:=1) (by decide) (by decide),X6 (r:=99) (w:=1) (by decide) (by decide),rn_end (by decide)];rfl
theorem rn_x:Kq xB= [88] :=by
 show runesAt ⟨#[88]⟩ 0=_
 rw [X6 (r:=88) (w:=1) (by decide) (by decide),rn_end (by decide)];rfl
def awX1:List Ce:= [(97,0),(98,0),(99,0)]
def awX2:List Ce:= [(97,0),(98,1),(99,0)]
theorem aw_k0 {k:Nat} (h:Pth [] 0 k):k=0:=Nat.le_zero.1 h.le
theorem aw_k2 {k:Nat} (h:Pth awX2 1 k):k=2:=by
 have h1:k≤3:=h.le
 have h2:=h.ct
 have h3:=h.at_ (by decide)
 match k,h1 with
 | 0,_=>exact absurd h2 (by decide)
 | 1,_=>obtain ⟨r,h3⟩:=h3;exact absurd (show some (1:Int)=some 0 from congrArg (Option.map fun c:Ce=>c.2) h3) (by decide)
 | 2,_=>rfl
 | 3,_=>obtain ⟨r,h3⟩:=h3;exact absurd (show (none:Option Int)=some 0 from congrArg (Option.map fun c:Ce=>c.2) h3) (by decide)
theorem aw_x2 {xs:List Rg} (h:VisR 1 1 awX1 xs):K5 xs 1 awX1=awX2:=by
 have hb:=Yt (k:=1) xs 0 awX1 (Int.le_refl _) h.pls.norm h.pls.below
 have hp:Ki xs= [1] :=by rw [h.pl];decide
 have hin: ∀q:Int,inRb q xs=decide (q=1):=fun q=>by
  have:inRb q xs=true↔q=1:=by rw [K8,←mem_places,hp];simp
  by_cases e:q=1
  ·rw [this.2 e];simp [e]
  ·rw [decide_eq_false e]
   cases hh:inRb q xs with
   | false=>rfl
   | true=>exact absurd (this.1 hh) e
 apply List.ext_getElem?
 intro q
 rw [hb.2 q,hin]
 match q with
 | 0=>rfl
 | 1=>rfl
 | 2=>rfl
 | q+3=>rfl
theorem aw_t3:textF (awX2.take 2++(cellsOf [88] 0++awX2.drop 2))=⟨#[97,88,99]⟩:=rfl
theorem text_vis {X Y:List Ce} (h:KQ X=KQ Y):textF X=textF Y:=by unfold textF vbs;rw [h]
theorem aw_t4:textF awX2=⟨#[97,99]⟩:=rfl
theorem tmod_neg (x:Int) (m:Nat) (hm:0<m) (h:x.tmod m<0):x.tmod m+m=x % m:=by
 have h1:=Int.emod_add_mul_ediv x m
 have h2:=Int.tmod_add_mul_tdiv x m
 have h3:=Int.emod_nonneg x (show (m:Int)≠0 by omega)
 have h4:=Int.emod_lt_of_pos x (show (0:Int)<m by omega)
 have h5:=Ed x m hm
 have h6:(m:Int)*(x / m)-m*(x.tdiv m)=x.tmod m-x % m:=by omega
 have h7:(m:Int)*(x / m-x.tdiv m)=x.tmod m-x % m:=by rw [Int.mul_sub];exact h6
 have h8:x / m-x.tdiv m= -1:=by
  rcases Int.lt_trichotomy (x / m-x.tdiv m) (-1) with h | h | h
  ·exfalso
   have:(m:Int)*(x / m-x.tdiv m)≤m*(-2):=Int.mul_le_mul_of_nonneg_left (by omega) (by omega)
   omega
  ·exact h
  ·exfalso
   have:(m:Int)*0≤m*(x / m-x.tdiv m):=Int.mul_le_mul_of_nonneg_left (by omega) (by omega)
   omega
 rw [h8] at h7
 omega
theorem tmod_pos (x:Int) (m:Nat) (hm:0<m) (h:0≤x.tmod m):x.tmod m=x % m:=by
 have h1:=Int.emod_add_mul_ediv x m
 have h2:=Int.tmod_add_mul_tdiv x m
 have h3:=Int.emod_nonneg x (show (m:Int)≠0 by omega)
 have h4:=Int.emod_lt_of_pos x (show (0:Int)<m by omega)
 have h5:=Ed x m hm
 have h6:(m:Int)*(x / m)-m*(x.tdiv m)=x.tmod m-x % m:=by omega
 have h7:(m:Int)*(x / m-x.tdiv m)=x.tmod m-x % m:=by rw [Int.mul_sub];exact h6
 have h8:x / m-x.tdiv m=0:=by
  rcases Int.lt_trichotomy (x / m-x.tdiv m) 0 with h | h | h
  ·exfalso
   have:(m:Int)*(x / m-x.tdiv m)≤m*(-1):=Int.mul_le_mul_of_nonneg_left (by omega) (by omega)
   omega
  ·exact h
  ·exfalso
   have:(m:Int)*1≤m*(x / m-x.tdiv m):=Int.mul_le_mul_of_nonneg_left (by omega) (by omega)
   omega
 rw [h8] at h7
 omega
theorem brought_m (x:Int) (m:Nat) (hm:0<m∧m≤1099511627776):Sp Tryz.prog 10 [.int .i64 x, .int .i64 m] [] [] (Is (.int .i64 (x % m))):=by
 have htb:=Ed x m hm.1
 refine Sp.of (n:=16) ⟨_,Tryz.func10,V,V,V,V⟩ (Nat.le_of_ble_eq_true V) fun Ps As=>Jc (Ja (Lq (Jd V) (Je (Jf (Jc (Jc (Ja (Lq (Jb V) (Lq (Km V V) (Je (Jf (Ju V (decide_eq_false (by omega)) (Jo (Jf (Jc (Ja (Lq (Jb V) ?_)))))))))))))))))
 refine Lq (Jb V) (Lq (Jb8 V V (by omega) V) (Lq (Jd V) (Je (Jf (Jc (Jc (Ja (Lq (Jb V) (Lq (Km V V) (Je (Jf (Jz V (fun h11=> ?_) (fun h11=> ?_)))))))))))))
 ·refine Ja (Lq (Jb V) (Lq (Jb V) (Lq (JQ V V (wr64 (by have h:=h11;simp only [decide_eq_true_eq] at h;omega))) (Lq (Jd V) (Je (Jf (Jc (Ja (Lq (Jb V) (Lq (Jd V) (Je (Jf (Jp ?_)))))))))))))
  refine ⟨_,[],[],fun Z w hs=> .tmp V .nil,?_,fun Z w hs=>hs.out (Sr) (fun _ h=>h)⟩
  have h:=h11
  have h3:=Int.emod_nonneg x (show (m:Int)≠0 by omega)
  have h4:=Int.emod_lt_of_pos x (show (0:Int)<m by omega)
  simp only [decide_eq_true_eq] at h
  exact ⟨congrArg (Value.int .i64) (by rw [tmod_neg x m hm.1 h]),V,V⟩
 ·refine Jo (Jf (Jc (Ja (Lq (Jb V) (Lq (Jd V) (Je (Jf (Jp ?_))))))))
  refine ⟨_,[],[],fun Z w hs=> .tmp V .nil,?_,fun Z w hs=>hs.out (Sr) (fun _ h=>h)⟩
  have h:=h11
  have h3:=Int.emod_nonneg x (show (m:Int)≠0 by omega)
  have h4:=Int.emod_lt_of_pos x (show (0:Int)<m by omega)
  simp only [decide_eq_false_iff_not] at h
  exact ⟨congrArg (Value.int .i64) (by rw [tmod_pos x m hm.1 (by omega)]),V,V⟩
theorem KZ (x:Int) (m:Nat) (hm:0<m∧m≤1099511627776):Sp Tryz.prog 10 [.int .i64 x, .int .i64 m] [] [] (fun v Lo fs=> ∃r:Nat,r<m∧(r:Int)=x % m∧v= .int .i64 r∧Lo= [] ∧fs= []):=by
 refine (brought_m x m hm).mono ?_
 rintro v Lo fs ⟨rfl,rfl,rfl⟩
 have h3:=Int.emod_nonneg x (show (m:Int)≠0 by omega)
 have h4:=Int.emod_lt_of_pos x (show (0:Int)<m by omega)
 exact ⟨(x % m).toNat,by omega,by omega,congrArg (Value.int .i64) (by omega),V,V⟩
theorem bd38_0_1_2Xg20 (x0_:Int) (x1_:Int) (x2_:Int) (w:World):(Instr.build 36 #[(0, .int .i64 x0_),(1, .int .i64 x1_),(2, .int .i64 x2_)]).run Tryz.prog w= .ok (.agg #[.int .i64 x0_, .int .i64 x1_, .int .i64 x2_]) w:=by kernel_rfl
theorem Jcb:Sp Tryz.prog 17 [] [] [] (Is (.agg #[.int .i64 4, .int .i64 4096, .int .i64 1024])):=by
 refine Sp.of (n:=2) ⟨_,Tryz.func17,V,V,V,V⟩ (Nat.le_of_ble_eq_true V) fun Ps As=>Jc (Ja (Jg V (Jw (cs:= [_,_,_]) Ee V (by decide) fun b0=>Je (Jf (Jc (Ja (Lq (JY (.n3 V V V) (bd38_0_1_2Xg20 _ _ _)) (Jg V (Jq (cs':= [_,_,_]) (vs:= [_,_,_]) Ee V V V V V (Nat.le_of_ble_eq_true V) .z (Je (Jf (Jp ?_))))))))))))
 refine ⟨_,[],[],fun Z w hs=>JT hs Un36 V Ee V Jn V .nil,?_,fun Z w hs=>hs.out (Sd (Sr)) (fun _ h=>h)⟩
 exact ⟨V,V,V⟩
theorem ZU (o:GOp) (A:Option Addr) (c:Nat) (hl:o.rs.length≤4398046511104):Sp Tryz.prog 61 [opV o A c] [] [RdF rgD A c o.rs] (fun v Lo fs=> ∃A' c',v=opV o A' c'∧Lo= [] ∧fs= [RdF rgD A' c' o.rs]):=by
 refine Sp.of (n:=8) ⟨_,Tryz.func61,V,V,V,V⟩ (Nat.le_of_ble_eq_true V) fun Ps As=>Jc (Ja (Jg V (J3 (cs:= [_,_,_,_,_,_,_,_,_]) V V (by decide) fun b1=>Jg V (Jw (cs:= [_,_,_,_,_,_,_,_,_]) JA V (by decide) fun b2=>Je (Jf (Jc (Ja (Lq (Jh (o':=5) Un60 V K3 V V) (Lq (Jk Un45 V V (Jj (Jn)) V) (Xa (Jg V (YM (e:=rgD) (ys:=_) Un45 Kf V (by decide) V V (Row.nil _ _) Mm0 (by omega) (by unfold maxLen;omega) (by decide) (List.Perm.refl _) fun v5 p5 cs5 hr5=>QV (e:=rgD) (css:=cs5) hr5 .z (by simp) Mm0 fun A5 c5 e5=> ?_))))))))))))
 subst e5
 refine Lq (Jh (o':=5) Un60 V K3 V V) (Jg V (JN K3 V V V .z5 .z1 (Je (Jf (Jc (Ja (Lq (Js (vs:= [_,_,_,_,_,_,_,_,_]) Un60 V JA V (Jj (Jn)) V V) (Jg V (Jq (cs':= [_,_,_,_,_,_,_,_,_]) (vs:= [_,_,_,_,_,_,_,_,_]) JA V V V V V (Nat.le_of_ble_eq_true V) .z (Je (Jf (Jp ?_))))))))))))
 refine ⟨_,[],[_],fun Z w hs=>JT hs Un60 V JA V Jn V .nil,?_,fun Z w hs=>hs.out (Sd2 (Sr)) (Jl Mm0 Tt2)⟩
 exact ⟨_,_,V,V,V⟩
theorem bd46_0_1Xg21 (x0_:Int) (x1_:Int) (w:World):(Instr.build 43 #[(0, .int .i64 x0_),(1, .int .i64 x1_)]).run Tryz.prog w= .ok (.agg #[.int .i64 x0_, .int .i64 x1_]) w:=by kernel_rfl
theorem Ja9 (M:DM) (D:DS) (ok:DkOk M D) (hv:DV D) (hb:Bd D) (a:GAct) (k n:Nat) (hn:1≤n∧n≤8):Sp Tryz.prog 25 [.pointer (some ⟨M.d,0,none⟩),actV a, .int .i64 k, .int .i64 n] (KH M D) (barF::wordsF::KY M D) (fun v Lo fs=>v= .bool true∧ActR M D Lo fs):=by
 have hvl:=KA M.t.row
 have hwt:=ok.wt
 have htl:=ok.tl
 have hrow:=ok.row
 have hpl:=ok.pl
 have hxl:=ok.xl
 have hvx:=KA D.X
 refine Sp.of (n:=101) ⟨_,Tryz.func25,V,V,V,V⟩ (Nat.le_of_ble_eq_true V) fun Ps As=>Jc (Ja (Jg V (J3 (cs:= [_,_,_,_,_,_]) V V (by decide) fun b5=>Lq (Jd V) (Je (Jf (Jc (Ja (Lq (Jb V) (Lq (JE V) (Lq (Jh (o':=0) Un40 V YF V V) (Jg V (KE (Xs M.d M.h M.b _ _ M.B M.t hwt) (.n1 V) (by decide) .z1 .z4 (Jl Mm4 Jx) fun _ _ _ q9=>?_))))))))))))
 obtain ⟨rfl,rfl,rfl⟩:=q9
 rw [hrow]
 refine Lq (Jd V) (Je (Jf (Jc (JD (Jc (Ja (Lq (Jb V) (Lq (Km V V) (Lq (Jd V) (Je (Jf (Jz V (fun h19=> ?_) (fun h19=> ?_)))))))))))))
 ·refine Jc (JI _ _ [16] (.c 0 0 (.c 1 0 (.c 2 0 (.c 3 0 (.c 4 0 (.c 6 0 (.c 7 0 (.b (.c 5 2 (.b (.c 8 2 (.c 9 0 (.c 10 0 (.b (.c 11 2 (.c 12 0 (.c 13 0 (.c 14 1 (.c 15 2 (.c 16 3 (.c 17 1 .nil))))))) (.c 15 2 (.c 11 2 (.c 12 0 (.c 13 0 (.c 14 1 (.c 16 3 (.c 17 1 .nil))))))))))) (.c 15 2 (.c 8 2 (.c 9 0 (.c 10 0 (.c 11 2 (.c 12 0 (.c 13 0 (.c 14 1 (.c 16 3 (.c 17 1 .nil)))))))))))) (.c 15 2 (.c 5 2 (.c 8 2 (.c 9 0 (.c 10 0 (.c 11 2 (.c 12 0 (.c 13 0 (.c 14 1 (.c 16 3 (.c 17 1 .nil))))))))))))))))))) mixed (fun _ _ _ _ h=>h) (Sd2 (Sk (Sd6 (Sr)))) (fun _ h=>h) (by kernel_rfl) (by decide) fun ws Z0=>Qe V (Jb V) (Qe V (Jh (o':=2) Un74 V ti3 V V) ?_))
  refine Qe V (Jk Un3 V V Jn V) (Qe V (Jb V) (Qe V (JQ V V (wr64 (by omega)) (c:=((J8 D.X+1:Nat):Int))) (Qe V (Jh (o':=3) Un74 V ti3 V V) (Qe V (Jk Un3 V V Jn V) (K7 ?_ ?_)))))
  ·refine Jy V V (Jm (KZ a.a (J8 D.X+1) (by omega)) (.n2 V V) (by decide) Jx fun _ _ _ q9=>?_)
   obtain ⟨p,hp,_,rfl,rfl,rfl⟩:=q9
   refine ⟨⟨(Sd2 (Sk (Sd6 (Sr)))),Mm0⟩,?_⟩
   refine K7 ?_ ?_
   ·refine Jy V V (Jm (KZ a.b 6 (by omega)) (.n2 V V) (by decide) Jx fun _ _ _ q9=>?_)
    obtain ⟨w,hw,_,rfl,rfl,rfl⟩:=q9
    refine ⟨⟨(Sd2 (Sk (Sd6 (Sr)))),Mm0⟩,?_⟩
    refine Qe V (Yn (o':=0+w) Un113 ti9 V V (by omega) (by omega) (by simp)) (Qe V (Kk (j:=w) (v:= .string (wordA w)) Un9 V V Mm1 V (Ec hw)) (K7 ?_ ?_))
    ·have hwd:=XX hw
     refine Jy V V (J9 (ins_a M D ok hv hb p (by omega) (wordA w) (by have:=hwd.z;omega) hwd.u hwd.n) (.n3 V V V) (by decide) (.n8 .z .z2 .z2 .z2 .z .z1 .z1 .z1) (Jl Mm1 (Jl Mm3 (Jl Mm4 (Jl Mm5 Jx)))) fun _ _ _ q9=>?_)
     obtain ⟨_,rfl,M2,D2,hac,hv2,hd2,hok2,rfl,rfl⟩:=q9
     refine ⟨⟨(Sd8 (Sk (Sr))),Mm3⟩,?_⟩
     refine Qe V (Jb V) (Qe V (Ji (vs:= [_,_]) V V) (YY V (Ji (vs:= [_,_]) V V) (by decide) (Jy V V (Jw (cs:= [_,_,_,_,_,_,_,_,_]) JA V (by decide) fun b10=> ?_))))
     refine ⟨⟨(Sd9 (Sk (Sr))),Mm3⟩,?_⟩
     refine JK (Ka V V (Jq (cs':= [_,_,_,_,_,_,_,_,_]) (vs:= [_,_,_,_,_,_,_,_,_]) JA V V V V V (Nat.le_of_ble_eq_true V) .z (YL V (Jd V) (by decide) (JJ (Jf (Jc (Ja (Lq (Jb V) (Lq (VA Un49 V) (Lq (Jd V) (Je (Jf (Jp (JF (Jt ?_)))))))))))))))
     refine ⟨_,[_,_,_,_,_,_,_,_],[_,_,_],fun Z w hs=> .tmp V .nil,?_,fun Z w hs=>hs.out (Sd (Sk8 (Sd (Sr)))) (Jl Mm0 (Jl Mm1 (Jl Mm2 Tt4)))⟩
     exact ⟨V,M2,D2,hac,hv2,hd2,hok2,V,V⟩
    ·refine Jy V V (Jw (cs:= [_,_,_,_,_,_,_,_,_]) JA V (by decide) fun b10=> ?_)
     refine ⟨⟨(Sd3 (Sk (Sd6 (Sr)))),Mm0⟩,?_⟩
     have hwd:=XX hw
     refine Jy V V (J9 (ins_a M D ok hv hb p (by omega) (wordA w) (by have:=hwd.z;omega) hwd.u hwd.n) (.n3 V V V) (by decide) (.n8 .z1 .z3 .z3 .z3 .z1 .z2 .z2 .z2) (Jl Mm1 (Jl Mm3 (Jl Mm4 (Jl Mm5 Jx)))) fun _ _ _ q9=>?_)
     obtain ⟨_,rfl,M2,D2,hac,hv2,hd2,hok2,rfl,rfl⟩:=q9
     refine ⟨⟨(Sd9 (Sk (Sr))),Mm3⟩,?_⟩
     refine Qe V (Jb V) (Qe V (Ji (vs:= [_,_]) V V) (YY V (Ji (vs:= [_,_]) V V) (by decide) (JK (Ka V V (Jq (cs':= [_,_,_,_,_,_,_,_,_]) (vs:= [_,_,_,_,_,_,_,_,_]) JA V V V V V (Nat.le_of_ble_eq_true V) .z8 (YL V (Jd V) (by decide) (JJ (Jf (Jc (Ja (Lq (Jb V) (Lq (VA Un49 V) (Lq (Jd V) ?_)))))))))))))
     refine Je (Jf (Jp (JF (Jt ?_))))
     refine ⟨_,[_,_,_,_,_,_,_,_],[_,_,_],fun Z w hs=> .tmp V .nil,?_,fun Z w hs=>hs.out (Sk8 (Sd2 (Sr))) (Jl Mm0 (Jl Mm1 (Jl Mm2 Tt4)))⟩
     exact ⟨V,M2,D2,hac,hv2,hd2,hok2,V,V⟩
   ·refine Jy V V (Jw (cs:= [_,_,_,_,_,_,_,_,_]) JA V (by decide) fun b10=> ?_)
    refine ⟨⟨(Sd3 (Sk (Sd6 (Sr)))),Mm0⟩,?_⟩
    refine Jy V V (Jm (KZ a.b 6 (by omega)) (.n2 V V) (by decide) Jx fun _ _ _ q9=>?_)
    obtain ⟨w,hw,_,rfl,rfl,rfl⟩:=q9
    refine ⟨⟨(Sd3 (Sk (Sd6 (Sr)))),Mm0⟩,?_⟩
    refine Qe V (Yn (o':=0+w) Un113 ti9 V V (by omega) (by omega) (by simp)) (Qe V (Kk (j:=w) (v:= .string (wordA w)) Un9 V V Mm1 V (Ec hw)) ?_)
    have hwd:=XX hw
    refine Jy V V (J9 (ins_a M D ok hv hb p (by omega) (wordA w) (by have:=hwd.z;omega) hwd.u hwd.n) (.n3 V V V) (by decide) (.n8 .z1 .z3 .z3 .z3 .z1 .z2 .z2 .z2) (Jl Mm1 (Jl Mm3 (Jl Mm4 (Jl Mm5 Jx)))) fun _ _ _ q9=>?_)
    obtain ⟨_,rfl,M2,D2,hac,hv2,hd2,hok2,rfl,rfl⟩:=q9
    refine ⟨⟨(Sd9 (Sk (Sr))),Mm3⟩,?_⟩
    refine Qe V (Jb V) (Qe V (Ji (vs:= [_,_]) V V) (YY V (Ji (vs:= [_,_]) V V) (by decide) (JK (Ka V V (Jq (cs':= [_,_,_,_,_,_,_,_,_]) (vs:= [_,_,_,_,_,_,_,_,_]) JA V V V V V (Nat.le_of_ble_eq_true V) .z8 (YL V (Jd V) (by decide) (JJ (Jf (Jc (Ja (Lq (Jb V) (Lq (VA Un49 V) (Lq (Jd V) ?_)))))))))))))
    refine Je (Jf (Jp (JF (Jt ?_))))
    refine ⟨_,[_,_,_,_,_,_,_,_],[_,_,_],fun Z w hs=> .tmp V .nil,?_,fun Z w hs=>hs.out (Sk8 (Sd2 (Sr))) (Jl Mm0 (Jl Mm1 (Jl Mm2 Tt4)))⟩
    exact ⟨V,M2,D2,hac,hv2,hd2,hok2,V,V⟩
  ·refine Jy V V (Jw (cs:= [_,_,_,_,_,_,_,_,_]) JA V (by decide) fun b10=> ?_)
   refine ⟨⟨(Sd3 (Sk (Sd6 (Sr)))),Mm0⟩,?_⟩
   refine Jy V V (Jm (KZ a.a (J8 D.X+1) (by omega)) (.n2 V V) (by decide) Jx fun _ _ _ q9=>?_)
   obtain ⟨p,hp,_,rfl,rfl,rfl⟩:=q9
   refine ⟨⟨(Sd3 (Sk (Sd6 (Sr)))),Mm0⟩,?_⟩
   refine Jy V V (Jm (KZ a.b 6 (by omega)) (.n2 V V) (by decide) Jx fun _ _ _ q9=>?_)
   obtain ⟨w,hw,_,rfl,rfl,rfl⟩:=q9
   refine ⟨⟨(Sd3 (Sk (Sd6 (Sr)))),Mm0⟩,?_⟩
   refine Qe V (Yn (o':=0+w) Un113 ti9 V V (by omega) (by omega) (by simp)) (Qe V (Kk (j:=w) (v:= .string (wordA w)) Un9 V V Mm1 V (Ec hw)) ?_)
   have hwd:=XX hw
   refine Jy V V (J9 (ins_a M D ok hv hb p (by omega) (wordA w) (by have:=hwd.z;omega) hwd.u hwd.n) (.n3 V V V) (by decide) (.n8 .z1 .z3 .z3 .z3 .z1 .z2 .z2 .z2) (Jl Mm1 (Jl Mm3 (Jl Mm4 (Jl Mm5 Jx)))) fun _ _ _ q9=>?_)
   obtain ⟨_,rfl,M2,D2,hac,hv2,hd2,hok2,rfl,rfl⟩:=q9
   refine ⟨⟨(Sd9 (Sk (Sr))),Mm3⟩,?_⟩
   refine Qe V (Jb V) (Qe V (Ji (vs:= [_,_]) V V) (YY V (Ji (vs:= [_,_]) V V) (by decide) (JK (Ka V V (Jq (cs':= [_,_,_,_,_,_,_,_,_]) (vs:= [_,_,_,_,_,_,_,_,_]) JA V V V V V (Nat.le_of_ble_eq_true V) .z8 (YL V (Jd V) (by decide) (JJ (Jf (Jc (Ja (Lq (Jb V) (Lq (VA Un49 V) (Lq (Jd V) ?_)))))))))))))
   refine Je (Jf (Jp (JF (Jt ?_))))
   refine ⟨_,[_,_,_,_,_,_,_,_],[_,_,_],fun Z w hs=> .tmp V .nil,?_,fun Z w hs=>hs.out (Sk8 (Sd2 (Sr))) (Jl Mm0 (Jl Mm1 (Jl Mm2 Tt4)))⟩
   exact ⟨V,M2,D2,hac,hv2,hd2,hok2,V,V⟩
 ·refine Jc (Ja (Lq (Jb V) (Lq (Kb V V) (Lq (Jd V) (Je (Jf (Jz V (fun h39=> ?_) (fun h39=> ?_))))))))
  ·refine Jc (Jc (Ja (Lq (Jb V) (Lq (Kb V V) (Je (Jf (Jz V (fun h43=> ?_) (fun h43=> ?_))))))))
   ·refine Jc (Ja (Lq (Jd V) (Je (Jf (Jp (Jt (JF (Jt ?_))))))))
    refine ⟨_,[_,_,_,_,_,_,_,_],[_,_,_],fun Z w hs=> .tmp V .nil,?_,fun Z w hs=>((((((((hs.pick .z8).pick .z8).pick .z8).pick .z4).pick .z8).pick .z8).pick .z8).pick .z7).out (Sk8 (Sd (Sr))) (Jl Mm2 (Jl Mm3 (Jl Mm4 (fun _ h=>h))))⟩
    exact ⟨V,M,D,Acted.rfl' D,hv,V,ok,V,V⟩
   ·have hvp:0<J8 D.X:=by simp at h43;omega
    refine Jo (Jf (Jc (Ja (Lq (Jh (o':=2) Un74 V ti3 V V) (Lq (Jk Un3 V V (Jj (Jj (Jn))) V) (Lq (Jb V) (Jg V (Jm (KZ a.a (J8 D.X) (by omega)) (.n2 V V) (by decide) Jx fun _ _ _ q9=>?_))))))))
    obtain ⟨p,hp,_,rfl,rfl,rfl⟩:=q9
    refine Lq (Jd V) (Je (Jf (Jc (Ja (Lq (Jb V) (Lq (Jb V) (Lq (Jh (o':=3) Un74 V ti3 V V) (Lq (Jk Un3 V V (Jj (Jj (Jn))) V) (Lq (Jb V) (Lq (Jb V) (Lq (KG V V (by rw [wr64 (by omega)];omega) (c:=((J8 D.X-p:Nat):Int))) (Jg V (Jm (KZ a.b (J8 D.X-p) (by omega)) (.n2 V V) (by decide) Jx fun _ _ _ q9=>?_)))))))))))))
    obtain ⟨q,hq,_,rfl,rfl,rfl⟩:=q9
    refine Lq (JQ V V (wr64 (by omega)) (c:=((1+q:Nat):Int))) (Jg V (J9 (del_a M D ok hv hb p (1+q) (by omega) (by omega)) (.n3 V V V) (by decide) (.n8 .z .z2 .z2 .z2 .z .z1 .z1 .z1) (Jl Mm0 (Jl Mm2 (Jl Mm3 (Jl Mm4 Jx)))) fun _ _ _ q9=>?_))
    obtain ⟨_,_,_,rfl,M2,D2,hac,hv2,hd2,hok2,rfl,rfl⟩:=q9
    refine Lq (Jb V) (Lq (Ji (vs:= [_,_]) V V) (Lq (Ji (vs:= [_,_]) V V) (Jg V (Jw (cs:= [_,_,_,_,_,_,_,_,_]) JA V (by decide) fun b13=>Jg V (Jq (cs':= [_,_,_,_,_,_,_,_,_]) (vs:= [_,_,_,_,_,_,_,_,_]) JA V V V V V (Nat.le_of_ble_eq_true V) .z (Lq (Jd V) (Je (Jf (Jc (Ja (Lq (Jb V) (Lq (VA Un49 V) (Lq (Jd V) ?_)))))))))))))
    refine Je (Jf (Jp (JF (Jt ?_))))
    refine ⟨_,[_,_,_,_,_,_,_,_],[_,_,_],fun Z w hs=> .tmp V .nil,?_,fun Z w hs=>hs.out (Sd (Sk8 (Sd (Sr)))) (fun _ h=>h)⟩
    exact ⟨V,M2,D2,hac,hv2,hd2,hok2,V,V⟩
  ·refine Jc (Ja (Lq (Jb V) (Lq (Kb V V) (Lq (Jd V) (Je (Jf (Jz V (fun h63=> ?_) (fun h63=> ?_))))))))
   ·refine Ja (Lq (Jb V) (Jg V (J9 (undo_a M D ok hv hb) (.n1 V) (by decide) (.n8 .z .z2 .z2 .z2 .z .z1 .z1 .z1) (Jl Mm0 (Jl Mm2 (Jl Mm3 (Jl Mm4 Jx)))) fun _ _ _ q9=>?_)))
    obtain ⟨M2,D2,hac,hv2,hd2,hok2,rfl,rfl⟩:=q9
    refine Je (J7 (Jf (Jc (Ja (Lq (Jd V) (Je (Jf (Jp ?_))))))))
    refine ⟨_,[_,_,_,_,_,_,_,_],[_,_,_],fun Z w hs=> .tmp V .nil,?_,fun Z w hs=>hs.out (Sk8 (Sd (Sr))) (fun _ h=>h)⟩
    exact ⟨V,M2,D2,hac,hv2,hd2,hok2,V,V⟩
   ·refine Jc (Ja (Lq (Jb V) (Lq (Kb V V) (Lq (Jd V) (Je (Jf (Jz V (fun h68=> ?_) (fun h68=> ?_))))))))
    ·refine Ja (Lq (Jb V) (Jg V (J9 (redo_a M D ok hv hb) (.n1 V) (by decide) (.n8 .z .z2 .z2 .z2 .z .z1 .z1 .z1) (Jl Mm0 (Jl Mm2 (Jl Mm3 (Jl Mm4 Jx)))) fun _ _ _ q9=>?_)))
     obtain ⟨M2,D2,hac,hv2,hd2,hok2,rfl,rfl⟩:=q9
     refine Je (J7 (Jf (Jc (Ja (Lq (Jd V) (Je (Jf (Jp ?_))))))))
     refine ⟨_,[_,_,_,_,_,_,_,_],[_,_,_],fun Z w hs=> .tmp V .nil,?_,fun Z w hs=>hs.out (Sk8 (Sd (Sr))) (fun _ h=>h)⟩
     exact ⟨V,M2,D2,hac,hv2,hd2,hok2,V,V⟩
    ·refine Jc (Ja (Lq (Jb V) (Lq (Kb V V) (Lq (Jd V) (Je (Jf (Jz V (fun h73=> ?_) (fun h73=> ?_))))))))
     ·refine JI _ _ [] (.c 0 0 (.c 1 0 (.c 2 0 (.c 3 0 (.c 6 0 (.c 7 0 (.c 11 0 (.c 12 0 (.c 4 2 (.c 5 0 (.c 8 2 (.c 9 0 (.c 10 0 (.c 13 2 .nil)))))))))))))) mixed (fun _ _ _ _ h=>h) (Sd2 (Sk (Sd6 (Sr)))) (fun _ h=>h) (by kernel_rfl) (by decide) fun ws Z0=>Qe V (Jb V) (Qe V (Jh (o':=3) Un74 V ti3 V V) (Qe V (Jk Un3 V V Jn V) (Qe V (Jb V) (Qe V (Jh (o':=2) Un74 V ti3 V V) (Qe V (Jk Un3 V V Jn V) (Qe V (Jh (o':=5) Un74 V ti4 V V) (Qe V (Jk Un4 V V Jn V) ?_)))))))
      refine Jy V V (Jm (KZ a.b n (by omega)) (.n2 V V) (by decide) Jx fun _ _ _ q9=>?_)
      obtain ⟨r1,hr1,_,rfl,rfl,rfl⟩:=q9
      refine ⟨⟨(Sd2 (Sk (Sd6 (Sr)))),Mm0⟩,?_⟩
      refine Qe V (JQ V V (wr64 (by omega))) (Jy V V (Jm (KZ a.a 8 (by omega)) (.n2 V V) (by decide) Jx fun _ _ _ q9=>?_))
      obtain ⟨r2,hr2,_,rfl,rfl,rfl⟩:=q9
      refine ⟨⟨(Sd2 (Sk (Sd6 (Sr)))),Mm0⟩,?_⟩
      refine Qe V (JQ V V (wr64 (by omega))) (Qe V (JY (.n2 V V) (bd46_0_1Xg21 _ _)) (Jy V V (J9 (turn_a M D ok hv hb _ _ a.on) (.n3 V V V) (by decide) (.n8 .z .z2 .z2 .z2 .z .z1 .z1 .z1) (Jl Mm1 (Jl Mm3 (Jl Mm4 (Jl Mm5 Jx)))) fun _ _ _ q9=>?_)))
      obtain ⟨M2,D2,hac,hv2,hd2,hok2,rfl,rfl⟩:=q9
      refine ⟨⟨(Sd8 (Sk (Sr))),Mm3⟩,?_⟩
      refine JK (JJ (J7 (Jf (Jc (Ja (Lq (Jd V) (Je (Jf (Jp ?_)))))))))
      refine ⟨_,[_,_,_,_,_,_,_,_],[_,_,_],fun Z w hs=> .tmp V .nil,?_,fun Z w hs=>hs.out (Sk8 (Sd (Sr))) (Jl Mm0 (Jl Mm1 (Jl Mm2 Tt4)))⟩
      exact ⟨V,M2,D2,hac,hv2,hd2,hok2,V,V⟩
     ·refine Jc (Ja (Lq (Jb V) (Lq (Kb V V) (Lq (Jd V) (Je (Jf (Jz V (fun h90=> ?_) (fun h90=> ?_))))))))
      ·refine Jc (Ja (Lq (Jb V) (Lq (Jh (o':=2) Un74 V ti3 V V) (Lq (Jk Un3 V V (Jj (Jj (Jn))) V) (Lq (Jb V) (Lq (JQ V V (wr64 (by omega)) (c:=((J8 D.X+1:Nat):Int))) (Jg V (Jm (KZ a.a (J8 D.X+1) (by omega)) (.n2 V V) (by decide) Jx fun _ _ _ q9=>?_))))))))
       obtain ⟨p,hp,_,rfl,rfl,rfl⟩:=q9
       refine Jg V (J9 (move_a M D ok hv hb p (by omega)) (.n2 V V) (by decide) (.n8 .z .z2 .z2 .z2 .z .z1 .z1 .z1) (Jl Mm0 (Jl Mm2 (Jl Mm3 (Jl Mm4 Jx)))) fun _ _ _ q9=>?_)
       obtain ⟨rfl,M2,D2,hac,hv2,hd2,hok2,rfl,rfl⟩:=q9
       refine Lq (VA Un49 V) (Lq (Jd V) (Je (Jf (Jp (JF (Jt ?_))))))
       refine ⟨_,[_,_,_,_,_,_,_,_],[_,_,_],fun Z w hs=> .tmp V .nil,?_,fun Z w hs=>hs.out (Sk8 (Sd (Sr))) (fun _ h=>h)⟩
       exact ⟨V,M2,D2,hac,hv2,hd2,hok2,V,V⟩
      ·refine Jo (J7 (Jf (Jc (Ja (Lq (Jd V) (Je (Jf (Jp ?_))))))))
       refine ⟨_,[_,_,_,_,_,_,_,_],[_,_,_],fun Z w hs=> .tmp V .nil,?_,fun Z w hs=>((((((((hs.pick .z8).pick .z8).pick .z8).pick .z4).pick .z8).pick .z8).pick .z8).pick .z7).out (Sk8 (Sd (Sr))) (Jl Mm2 (Jl Mm3 (Jl Mm4 (fun _ h=>h))))⟩
       exact ⟨V,M,D,Acted.rfl' D,hv,V,ok,V,V⟩
abbrev Rm:=List (DM×DS)
def YA (Rs:Rm):List Part:=Rs.flatMap fun r=>KH r.1 r.2
def Yb (Rs:Rm):Part:=(YA Rs).flatten
def Vy (Rs:Rm):List Fact:=Rs.flatMap fun r=>KY r.1 r.2
def RoomF (Rs:Rm):Fact where
 holds Z w:= ∀A∈Vy Rs,A.holds Z w
 stable hz hh h1 h2 h3 h:=fun A hA=>A.stable hz hh h1 h2 h3 (h A hA)
theorem room_split (Rs:Rm) {i:Nat} (hi:i<Rs.length):Rs=Rs.take i++Rs[i] ::Rs.drop (i+1):=by
 rw [←List.drop_eq_getElem_cons hi,List.take_append_drop]
theorem EI (Rs:Rm) {i:Nat} (hi:i<Rs.length) (x:DM×DS):Rs.set i x=Rs.take i++x::Rs.drop (i+1):=List.set_eq_take_append_cons_drop ▸ (by rw [if_pos hi])
theorem E6 (R1 R2:Rm) (x:DM×DS):YA (R1++x::R2)=YA R1++(KH x.1 x.2++YA R2):=by unfold YA;rw [List.flatMap_append,List.flatMap_cons]
theorem Qv (R1 R2:Rm) (x:DM×DS):Vy (R1++x::R2)=Vy R1++(KY x.1 x.2++Vy R2):=by unfold Vy;rw [List.flatMap_append,List.flatMap_cons]
theorem room_perm (R1 R2:Rm) (x:DM×DS) (Ps:List Part):(KH x.1 x.2++(YA R1++(YA R2++Ps))).flatten.Perm ([Yb (R1++x::R2)] ++Ps).flatten:=by
 unfold Yb
 rw [E6]
 generalize KH x.1 x.2=Q
 have e:([(YA R1++(Q++YA R2)).flatten] ++Ps).flatten=(YA R1).flatten++(Q.flatten++((YA R2).flatten++Ps.flatten)):=by
  simp only [List.cons_append,List.nil_append,List.flatten_cons,List.flatten_append,List.append_assoc]
 rw [e]
 simp only [List.flatten_append]
 exact List.perm_append_comm_assoc ..
theorem _root_.Go.GW.Sp.room {P:Program} {k:FuncId} {args:List Value} {pre:List Fact} {res:Value→List Part→List Fact→Prop} {Rs:Rm} (i:Nat) (hi:i<Rs.length) (h:Sp P k args (KH Rs[i].1 Rs[i].2) (pre++KY Rs[i].1 Rs[i].2) res) (post:Value→DM→DS→List Fact→Prop)
  (hr: ∀v Lo fs,res v Lo fs→ ∃M2 D2 gs,post v M2 D2 gs∧Lo=KH M2 D2∧(∀A∈KY M2 D2++gs,A∈fs++(pre++KY Rs[i].1 Rs[i].2))):
  Sp P k args [Yb Rs] (pre++ [RoomF Rs]) (fun v Lo fs=> ∃M2 D2 gs,post v M2 D2 gs∧Lo= [Yb (Rs.set i (M2,D2))] ∧fs=RoomF (Rs.set i (M2,D2))::gs):=by
 refine ⟨h.enters,fun Z w Ps As hs=> ?_⟩
 have hsp:=room_split Rs hi
 have hRF:(RoomF Rs).holds Z w:=hs.facts _ (by simp)
 have h1:St Z w (KH Rs[i].1 Rs[i].2++(YA (Rs.take i)++(YA (Rs.drop (i+1))++Ps))) ((pre++KY Rs[i].1 Rs[i].2)++(RoomF Rs::As)):=by
  refine ⟨hs.zlt,fun q hq=>hs.own q ?_,?_,fun A hA=> ?_⟩
  ·have:=(room_perm (Rs.take i) (Rs.drop (i+1)) Rs[i] Ps).subset hq
   rw [←hsp] at this;exact this
  ·have hp:=(room_perm (Rs.take i) (Rs.drop (i+1)) Rs[i] Ps).map Prod.fst
   rw [←hsp] at hp
   exact hp.nodup_iff.2 hs.nodup
  ·rcases List.mem_append.1 hA with hA | hA
   ·rcases List.mem_append.1 hA with hA | hA
    ·exact hs.facts A (List.mem_append_left _ (List.mem_append_left _ hA))
    ·refine hRF A ?_
     rw [hsp,Qv]
     exact List.mem_append_right _ (List.mem_append_left _ hA)
   ·rcases List.mem_cons.1 hA with rfl | hA
    ·exact hRF
    ·exact hs.facts A (List.mem_append_right _ hA)
 refine (h.calls Z w _ _ h1).mono ?_
 rintro e w' ⟨v,rfl,Z',Lo,fs,g1,g2⟩
 obtain ⟨M2,D2,gs,p1,rfl,p3⟩:=hr v Lo fs g1
 refine ⟨v,V,Z',_,_,⟨M2,D2,gs,p1,V,V⟩,?_⟩
 have hset:=EI Rs hi (M2,D2)
 have hfacts: ∀A∈KY M2 D2++gs,A.holds Z' w':=fun A hA=>g2.facts A (by
  rcases List.mem_append.1 (p3 A hA) with h | h
  ·exact List.mem_append_left _ h
  ·exact List.mem_append_right _ (List.mem_append_left _ h))
 have hRF2:(RoomF Rs).holds Z' w':=g2.facts _ (List.mem_append_right _ (List.mem_append_right _ (List.mem_cons_self)))
 refine ⟨g2.zlt,fun q hq=>g2.own q ?_,?_,fun A hA=> ?_⟩
 ·rw [hset] at hq
  exact (room_perm (Rs.take i) (Rs.drop (i+1)) (M2,D2) Ps).symm.subset hq
 ·rw [hset]
  exact ((room_perm (Rs.take i) (Rs.drop (i+1)) (M2,D2) Ps).map Prod.fst).nodup_iff.1 g2.nodup
 ·rcases List.mem_append.1 hA with hA | hA
  ·rcases List.mem_cons.1 hA with rfl | hA
   ·intro B hB
    rw [hset,Qv] at hB
    rcases List.mem_append.1 hB with hB | hB
    ·refine hRF2 B ?_
     rw [hsp,Qv];exact List.mem_append_left _ hB
    ·rcases List.mem_append.1 hB with hB | hB
     ·exact hfacts B (List.mem_append_left _ hB)
     ·refine hRF2 B ?_
      rw [hsp,Qv];exact List.mem_append_right _ (List.mem_append_right _ hB)
   ·exact hfacts A (List.mem_append_right _ hA)
  ·rcases List.mem_append.1 hA with hA | hA
   ·rcases List.mem_append.1 hA with hA | hA
    ·exact g2.facts A (List.mem_append_right _ (List.mem_append_left _ (List.mem_append_left _ hA)))
    ·have:=List.mem_singleton.1 hA
     subst this;exact hRF2
   ·exact g2.facts A (List.mem_append_right _ (List.mem_append_right _ (.tail _ hA)))
theorem _root_.Go.GW.WC_openRm {P:Program} {n:Dm} {R:Post} {l:Fr} {Ps:List Part} {As:List Fact} {c:Code} {Rs:Rm} (i:Nat) (hi:i<Rs.length) (hF:RoomF Rs∈As) (h:WC P n c R l (KH Rs[i].1 Rs[i].2++Ps) (KY Rs[i].1 Rs[i].2++As)):WC P n c R l (Yb Rs::Ps) As:=by
 intro Z w a hs ha
 have hsp:=room_split Rs hi
 have hRF:(RoomF Rs).holds Z w:=hs.facts _ hF
 refine h Z w a ⟨hs.zlt,fun q hq=>hs.own q ?_,?_,fun A hA=> ?_⟩ ha
 all_goals
  have hp:=room_perm (Rs.take i) (Rs.drop (i+1)) Rs[i] Ps
  rw [←hsp] at hp
 ·have hsub:(KH Rs[i].1 Rs[i].2++Ps).flatten ⊆ (KH Rs[i].1 Rs[i].2++(YA (Rs.take i)++(YA (Rs.drop (i+1))++Ps))).flatten:=by
   intro q hq
   simp only [List.flatten_append,List.mem_append] at hq ⊢
   exact hq.elim .inl (fun h=> .inr (.inr (.inr h)))
  exact hp.subset (hsub hq)
 ·have h1:=(hp.map Prod.fst).nodup_iff.2 hs.nodup
  have hsub:((KH Rs[i].1 Rs[i].2++Ps).flatten).Sublist (KH Rs[i].1 Rs[i].2++(YA (Rs.take i)++(YA (Rs.drop (i+1))++Ps))).flatten:=by
   simp only [List.flatten_append]
   exact List.Sublist.append (Sr) ((List.sublist_append_right _ _).trans (List.sublist_append_right _ _))
  exact (hsub.map Prod.fst).nodup h1
 ·rcases List.mem_append.1 hA with hA | hA
  ·refine hRF A ?_
   rw [hsp,Qv]
   exact List.mem_append_right _ (List.mem_append_left _ hA)
  ·exact hs.facts A hA
def ptD:De Nat where
 sz:=1
 rep _ _ x cs:=cs= [.pointer (some ⟨x,0,none⟩)]
 len h:=by subst h;rfl
 one h:=by subst h;rfl
 stable _ _ _ _ _ h:=h
theorem pt_open (u:Nat): ∀Z w cs,ptD.rep Z w u cs→ ∃y:Unit,cs= [.pointer (some ⟨u,0,none⟩)] ∧ ∀B∈([] :List Fact),B.holds Z w:=fun _ _ _ h=>⟨(),h,fun _ h=>by cases h⟩
abbrev adsF (A:Option Addr) (c:Nat) (Rs:Rm):Fact:=RdF ptD A c (Rs.map fun r=>r.1.d)
def pendN (D:DS):Nat:=D.H.ops.length-D.got
structure RmI (k:Nat) (Rs:Rm) (G:List GOp):Prop where
 len:2≤Rs.length∧Rs.length≤4
 ok: ∀r∈Rs,DkOk r.1 r.2
 dv: ∀r∈Rs,DV r.2
 lm: ∀r∈Rs,r.2.cl=4∧r.2.ce=4096∧r.2.op=1024
 us: ∀(i:Nat) r,Rs[i]? =some r→r.2.u=(i:Int)+1
 got: ∀r∈Rs,r.2.H.ops.take r.2.got=G∧r.2.got=G.length
 pd: ∀r∈Rs,∀o∈r.2.H.ops.drop r.2.got,o.c=r.2.u
 cnt:G.length+(Rs.map fun r=>pendN r.2).sum≤k
 md: ∀r∈Rs,r.2.made≤k
theorem sum_mid {Rs:Rm} (f:DM×DS→Nat) {i:Nat} (hi:i<Rs.length):(Rs.map f).sum=((Rs.take i).map f).sum+(f Rs[i] +((Rs.drop (i+1)).map f).sum):=by
 conv=>lhs;rw [room_split Rs hi]
 rw [List.map_append,List.sum_append,List.map_cons,List.sum_cons]
theorem Jap {Rs:Rm} (f:DM×DS→Nat) {i:Nat} (hi:i<Rs.length) (x:DM×DS):((Rs.set i x).map f).sum+f Rs[i] =(Rs.map f).sum+f x:=by
 rw [EI Rs hi,List.map_append,List.sum_append,List.map_cons,List.sum_cons,sum_mid f hi]
 omega
theorem RmI.n {k:Nat} {Rs:Rm} {G:List GOp} (h:RmI k Rs G): ∀r∈Rs,r.2.H.ops.length≤k∧r.2.H.ops.length=G.length+pendN r.2:=fun r hr=>by
 obtain ⟨i,hi,rfl⟩:=List.mem_iff_getElem.1 hr
 have h1:=h.cnt
 rw [sum_mid (fun r=>pendN r.2) hi] at h1
 have h2:=(h.got _ hr).2
 have h3:=(h.ok _ hr).rc
 unfold pendN at h1 ⊢
 omega
theorem RmI.bd {k:Nat} {Rs:Rm} {G:List GOp} (h:RmI k Rs G) (hk:k≤600): ∀r∈Rs,Bd r.2:=fun r hr=>by
 have h1:=(h.n r hr).1
 have h2:=h.md r hr
 have h3:=h.lm r hr
 exact ⟨by omega,by omega,by omega⟩
theorem RmI.mono {k k':Nat} {Rs:Rm} {G:List GOp} (h:RmI k Rs G) (hk:k≤k'):RmI k' Rs G:=
 ⟨h.len,h.ok,h.dv,h.lm,h.us,h.got,h.pd,by have:=h.cnt;omega,fun r hr=>by have:=h.md r hr;omega⟩
theorem RmI.act {k:Nat} {Rs:Rm} {G:List GOp} (h:RmI k Rs G) {i:Nat} (hi:i<Rs.length) {M2:DM} {D2:DS} (ha:Acted Rs[i].2 D2) (hv:DV D2) (hok:DkOk M2 D2):RmI (k+1) (Rs.set i (M2,D2)) G:=by
 have hm:=List.getElem_mem hi
 have hmem: ∀ {r},r∈Rs.set i (M2,D2)→r∈Rs∨r=(M2,D2):=fun hr=>List.mem_or_eq_of_mem_set hr
 have hg:=h.got _ hm
 have hrc:=(h.ok _ hm).rc
 have hl:=h.lm _ hm
 have hgot:D2.got=Rs[i].2.got:=ha.got
 have hops:(D2.H.ops=Rs[i].2.H.ops∧D2.made=Rs[i].2.made)∨ ∃o,o.c=Rs[i].2.u∧D2.H.ops=Rs[i].2.H.ops++ [o] ∧D2.made=Rs[i].2.made+1:=by
  rcases ha.cm with ⟨h1,_,h3⟩ | ⟨o,h1,_,h3,h4⟩
  ·exact .inl ⟨by rw [h1],h3⟩
  ·exact .inr ⟨o,h1,h3,h4⟩
 refine ⟨by rw [List.length_set];exact h.len,fun r hr=> ?_,fun r hr=> ?_,fun r hr=> ?_,fun j r hj=> ?_,fun r hr=> ?_,fun r hr=> ?_,?_,fun r hr=> ?_⟩
 ·rcases hmem hr with hr | rfl
  ·exact h.ok r hr
  ·exact hok
 ·rcases hmem hr with hr | rfl
  ·exact h.dv r hr
  ·exact hv
 ·rcases hmem hr with hr | rfl
  ·exact h.lm r hr
  ·have:=ha.lm
   simp only
   rw [this.1,this.2.1,this.2.2];exact hl
 ·rw [List.getElem?_set] at hj
  split at hj
  ·rename_i e
   subst e
   obtain rfl:=Option.some.inj hj
   show D2.u=_
   rw [ha.u];exact h.us i _ (List.getElem?_eq_getElem hi)
  ·exact h.us j r hj
 ·rcases hmem hr with hr | rfl
  ·exact h.got r hr
  ·simp only
   rw [hgot]
   refine ⟨?_,hg.2⟩
   rcases hops with ⟨e,_⟩ | ⟨o,_,e,_⟩
   ·rw [e];exact hg.1
   ·rw [e,List.take_append_of_le_length hrc];exact hg.1
 ·rcases hmem hr with hr | rfl
  ·exact h.pd r hr
  ·simp only
   rw [hgot,ha.u]
   rcases hops with ⟨e,_⟩ | ⟨o,ho,e,_⟩
   ·rw [e];exact h.pd _ hm
   ·rw [e,List.drop_append_of_le_length hrc]
    intro x hx
    rcases List.mem_append.1 hx with hx | hx
    ·exact h.pd _ hm x hx
    ·rw [List.mem_singleton.1 hx];exact ho
 ·have h1:=Jap (fun r=>pendN r.2) hi (M2,D2)
  have h2:=h.cnt
  have h3:pendN D2≤pendN Rs[i].2+1:=by
   unfold pendN
   rw [hgot]
   rcases hops with ⟨e,_⟩ | ⟨o,_,e,_⟩
   ·rw [e];omega
   ·rw [e,List.length_append,List.length_singleton];omega
  simp only at h1
  omega
 ·rcases hmem hr with hr | rfl
  ·have:=h.md r hr;omega
  ·have:=h.md _ hm
   simp only
   rcases hops with ⟨_,e⟩ | ⟨_,_,_,e⟩<;>omega
theorem CtxOk.at_: ∀ {w:Int} {l:List GOp} {k:Nat} (hk:k<l.length),CtxOk w l→Right (w+sumO (l.take k)) l[k]
 | w,o::l,0,_,h=>by simpa [sumO] using h.1
 | w,o::l,k+1,hk,h=>by
  have:=CtxOk.at_ (w:=w+Jr o) (l:=l) (k:=k) (by simpa using hk) h.2
  rw [List.take_succ_cons,sumO,List.getElem_cons_succ,←Int.add_assoc];exact this
theorem ids_ops (H:Hist):(H.ents.map fun e=>(e.op.c,e.op.n))=H.ops.map fun o=>(o.c,o.n):=by unfold Hist.ops;rw [List.map_map];rfl
theorem RmI.good {k:Nat} {Rs:Rm} {G:List GOp} (h:RmI k Rs G) (hk:k≤600) {a:Nat} (ha:a<Rs.length) {p:GOp} (hp:Rs[a].2.H.ops[Rs[a].2.got]? =some p) {i:Nat} (hi:i<Rs.length) (hne:i≠a):Good Rs[i].2.H Rs[i].2.got p:=by
 have ma:=List.getElem_mem ha
 have mi:=List.getElem_mem hi
 have va:=(h.dv _ ma).di
 have vi:=(h.dv _ mi).di
 have hga:=h.got _ ma
 have hgi:=h.got _ mi
 have hra:=(h.ok _ ma).rc
 have hri:=(h.ok _ mi).rc
 have hla:Rs[a].2.got<Rs[a].2.H.ops.length:=by
  rcases Nat.lt_or_ge Rs[a].2.got Rs[a].2.H.ops.length with h | h
  ·exact h
  ·rw [List.getElem?_eq_none h] at hp;cases hp
 have hpe:Rs[a].2.H.ops[Rs[a].2.got] =p:=by rw [List.getElem?_eq_getElem hla] at hp;exact Option.some.inj hp
 have hpm:p∈Rs[a].2.H.ops:=hpe ▸ List.getElem_mem hla
 have hpc:p.c=Rs[a].2.u:=h.pd _ ma p (List.mem_iff_getElem?.2 ⟨0,by rw [List.getElem?_drop,Nat.add_zero];exact hp⟩)
 have hua:=h.us a _ (List.getElem?_eq_getElem ha)
 have hui:=h.us i _ (List.getElem?_eq_getElem hi)
 have hni:=(h.n _ mi).1
 have hti:=(h.dv _ mi).total
 refine ⟨by rw [←Ky];exact hri,?_,?_,?_,?_,?_⟩
 ·rw [before_ops,hgi.1,←hga.1]
  have:=CtxOk.at_ hla va.hv.ctx
  rw [Int.zero_add,hpe] at this
  exact this
 ·cases hw:J5 Rs[i].2.H.ents p.c p.n with
  | none=>rfl
  | some j=>
   exfalso
   obtain ⟨hj,g1,g2⟩:=KI hw
   have hjo:j<Rs[i].2.H.ops.length:=by rw [Ky];exact hj
   have hoj:Rs[i].2.H.ops[j] =Rs[i].2.H.ents[j].op:=by simp [Hist.ops]
   rcases Nat.lt_or_ge j Rs[i].2.got with hlt | hge
   ·--it is among the received ones:twice in a's order
    have e1:Rs[a].2.H.ops[j]? =some Rs[i].2.H.ops[j] :=by
     have e2:(Rs[i].2.H.ops.take Rs[i].2.got)[j]? =some Rs[i].2.H.ops[j] :=by rw [List.getElem?_take,if_pos hlt,List.getElem?_eq_getElem hjo]
     rw [hgi.1,←hga.1,List.getElem?_take] at e2
     split at e2
     ·exact e2
     ·cases e2
    have hja:j<Rs[a].2.H.ops.length:=by
     rcases Nat.lt_or_ge j Rs[a].2.H.ops.length with h | h
     ·exact h
     ·rw [List.getElem?_eq_none h] at e1;cases e1
    rw [List.getElem?_eq_getElem hja] at e1
    have e1:=Option.some.inj e1
    have hnd:=va.hv.ids
    rw [ids_ops] at hnd
    have:=List.getElem_inj (h₀:=by rw [List.length_map];exact hja) (h₁:=by rw [List.length_map];exact hla) hnd (i:=j) (j:=Rs[a].2.got)
    simp only [List.getElem_map,Prod.mk.injEq] at this
    have:=this.1 ⟨by rw [e1,hoj,hpe];exact g1,by rw [e1,hoj,hpe];exact g2⟩
    have:=hga.2
    have:=hgi.2
    omega
   ·have hm:Rs[i].2.H.ops[j] ∈Rs[i].2.H.ops.drop Rs[i].2.got:=List.mem_iff_getElem?.2 ⟨j-Rs[i].2.got,by rw [List.getElem?_drop,Nat.add_sub_cancel' hge,List.getElem?_eq_getElem hjo]⟩
    have:=h.pd _ mi _ hm
    rw [hoj,g1,hpc] at this
    omega
 ·obtain ⟨x,hx,hxe⟩:=List.mem_map.1 hpm
  have:=va.hv.idr x hx
  rw [hxe] at this;exact this
 ·intro h4
  have hT:=(va.made.ci (by have:=va.le;omega)).tgt
  rw [show Rs[a].2.H.ops=Rs[a].2.H.ops.take Rs[a].2.got++(p::Rs[a].2.H.ops.drop (Rs[a].2.got+1)) by rw [←hpe,←List.drop_eq_getElem_cons hla,List.take_append_drop],TgtOk.append,List.nil_append] at hT
  obtain ⟨q,p1,p2,p3,p4⟩:=hT.2.1 h4
  rw [hga.1,←hgi.1] at p1
  obtain ⟨j,hj,hq⟩:=List.mem_iff_getElem.1 p1
  rw [List.length_take] at hj
  rw [List.getElem_take] at hq
  have hjl:j<Rs[i].2.H.ents.length:=by rw [←Ky];omega
  have hje:Rs[i].2.H.ents[j].op=q:=by rw [←hq];simp [Hist.ops]
  refine ⟨j,?_,by omega,Rs[i].2.H.ents[j],List.getElem?_eq_getElem hjl,by rw [hje];exact p4⟩
  have:=Yg vi.hv.ids hjl
  rw [hje,p2,p3] at this;exact this
 ·have:=(h.dv _ ma).wb p hpm
  omega
theorem take_ops {D:DS} (hdi:DI D.H.ops.length D.H D.X) {o:GOp} (g:Good D.H D.got o):(K4 D o).H.ops=D.H.ops.take D.got++([o] ++(JV o (D.H.ops.drop D.got)).2)∧Sames (D.H.ops.drop D.got) (JV o (D.H.ops.drop D.got)).2:=
 ⟨hdi.ops g,(cross_good hdi.hv g).2.2.2.2⟩
theorem Sames.mem {l m:List GOp} (h:Sames l m): ∀x∈m,∃y∈l,Same y x:=by
 induction h with
 | nil=>intro x hx;cases hx
 | cons h hr ih=>
  intro x hx
  rcases List.mem_cons.1 hx with rfl | hx
  ·exact ⟨_,List.mem_cons_self,h⟩
  ·obtain ⟨y,hy,hs⟩:=ih x hx
   exact ⟨y,List.mem_cons_of_mem _ hy,hs⟩
theorem DV.take {D:DS} (h:DV D) {o:GOp} (g:Good D.H D.got o) (hn:D.H.ops.length<900) (hc:o.c≠D.u) (hw:Jr o≤5) (hrc:D.got≤D.H.ops.length):DV (K4 D o):=by
 have T:=g.tad h.di hn
 obtain ⟨e,hs⟩:=take_ops h.di g
 have hpu:=h.put_ o.c
 have hnl:=T.nl
 have hmem: ∀x∈(K4 D o).H.ops,(∃y∈D.H.ops,Same y x)∨x=o:=fun x hx=>by
  rw [e] at hx
  rcases List.mem_append.1 hx with hx | hx
  ·exact .inl ⟨x,List.mem_of_mem_take hx,Same.refl x⟩
  ·rcases List.mem_append.1 hx with hx | hx
   ·exact .inr (List.mem_singleton.1 hx)
   ·obtain ⟨y,hy,hxy⟩:=hs.mem x hx
    exact .inl ⟨y,List.mem_of_mem_drop hy,hxy⟩
 refine ⟨h.us,fun x hx hxc=> ?_,h.sid,fun x hx=> ?_,fun x hx=> ?_,?_,?_⟩
 ·rcases hmem x hx with ⟨y,hy,hxy⟩ | rfl
  ·rw [hxy.n];exact h.own y hy (by rw [←hxy.c];exact hxc)
  ·exact absurd hxc hc
 ·show 0≤x∧x≤5*((putF D.H D.got o).1.ops.length:Int)
  rw [hnl]
  have hx2:x∈D.put.set o.c.toNat (putA D o.c+Jr o):=hx
  have hw0:=T.w0
  rcases List.mem_or_eq_of_mem_set hx2 with hx | rfl
  ·have:=h.pb x hx;omega
  ·omega
 ·rcases hmem x hx with ⟨y,hy,hxy⟩ | rfl
  ·rw [hxy.width];exact h.wb y hy
  ·exact hw
 ·show DI (putF D.H D.got o).1.ops.length _ _
  rw [hnl];exact T.di
 ·show (D.put.set _ _).length=9
  rw [List.length_set];exact h.pl
theorem DV.conf {D:DS} (h:DV D):DV (confD D):=⟨h.us,h.own,h.sid,h.pb,h.wb,h.di,h.pl⟩
structure SentS (Rs:Rm) (a i:Nat) (p:GOp) (Rs':Rm):Prop where
 len:Rs'.length=Rs.length
 d:(Rs'.map fun r=>r.1.d)=Rs.map fun r=>r.1.d
 ok: ∀r∈Rs',DkOk r.1 r.2
 st: ∀(t:Nat) (h:t<Rs.length) (h':t<Rs'.length),Rs'[t].2=if t=a then confD Rs[t].2 else if t<i then K4 Rs[t].2 p else Rs[t].2
theorem map_set_d {Rs:Rm} {i:Nat} (hi:i<Rs.length) {M2:DM} {D2:DS} (hd:M2.d=Rs[i].1.d):((Rs.set i (M2,D2)).map fun r=>r.1.d)=Rs.map fun r=>r.1.d:=by
 rw [List.map_set]
 have e:(M2,D2).1.d=(Rs.map fun r=>r.1.d)[i]'(by simpa using hi):=by rw [List.getElem_map];exact hd
 rw [e,List.set_getElem_self]
theorem SentS.zero {Rs:Rm} {a:Nat} (ha:a<Rs.length) (hok: ∀r∈Rs,DkOk r.1 r.2) (p:GOp) (hc:DkOk Rs[a].1 (confD Rs[a].2)):SentS Rs a 0 p (Rs.set a (Rs[a].1,confD Rs[a].2)):=by
 refine ⟨List.length_set,map_set_d ha V,fun r hr=> ?_,fun t h h'=> ?_⟩
 ·rcases List.mem_or_eq_of_mem_set hr with hr | rfl
  ·exact hok r hr
  ·exact hc
 ·rw [List.getElem_set]
  by_cases e:a=t
  ·subst e;rw [if_pos rfl,if_pos rfl]
  ·rw [if_neg e,if_neg (fun h=>e h.symm),if_neg (Nat.not_lt_zero _)]
theorem SentS.skip {Rs:Rm} {a:Nat} {p:GOp} {Rs':Rm} (h:SentS Rs a a p Rs'):SentS Rs a (a+1) p Rs':=
 ⟨h.len,h.d,h.ok,fun t h1 h2=>by
  rw [h.st t h1 h2]
  by_cases e:t=a
  ·rw [if_pos e,if_pos e]
  ·rw [if_neg e,if_neg e]
   by_cases e2:t<a
   ·rw [if_pos e2,if_pos (by omega)]
   ·rw [if_neg e2,if_neg (by omega)]⟩
theorem SentS.old {Rs:Rm} {a i:Nat} {p:GOp} {Rs':Rm} (h:SentS Rs a i p Rs') (hne:i≠a) (hi:i<Rs.length) (hi':i<Rs'.length):Rs'[i].2=Rs[i].2:=by
 rw [h.st i hi hi',if_neg hne,if_neg (Nat.lt_irrefl _)]
theorem SentS.take {Rs:Rm} {a i:Nat} {p:GOp} {Rs':Rm} (h:SentS Rs a i p Rs') (hne:i≠a) (hi:i<Rs.length) (hi':i<Rs'.length) {M2:DM} (hd:M2.d=Rs'[i].1.d) (hk:DkOk M2 (K4 Rs'[i].2 p)):SentS Rs a (i+1) p (Rs'.set i (M2,K4 Rs'[i].2 p)):=by
 refine ⟨by rw [List.length_set];exact h.len,by rw [map_set_d hi' hd];exact h.d,fun r hr=> ?_,fun t h1 h2=> ?_⟩
 ·rcases List.mem_or_eq_of_mem_set hr with hr | rfl
  ·exact h.ok r hr
  ·exact hk
 ·rw [List.getElem_set]
  by_cases e:i=t
  ·subst e
   rw [if_pos rfl,if_neg hne,if_pos (by omega)]
   show K4 Rs'[i].2 p=_
   rw [h.old hne hi hi']
  ·rw [if_neg e,h.st t h1 (by rw [h.len];exact h1)]
   by_cases e1:t=a
   ·rw [if_pos e1,if_pos e1]
   ·rw [if_neg e1,if_neg e1]
    by_cases e2:t<i
    ·rw [if_pos e2,if_pos (by omega)]
    ·rw [if_neg e2,if_neg (by omega)]
theorem sum_nth: ∀(f g:DM×DS→Nat) (Rs Rs':Rm) (a:Nat),Rs'.length=Rs.length→a<Rs.length→(∀(t:Nat) (h:t<Rs.length) (h':t<Rs'.length),g Rs'[t] =if t=a then f Rs[t] - 1 else f Rs[t])→(∀(h:a<Rs.length),0<f Rs[a])→(Rs'.map g).sum+1=(Rs.map f).sum
 | f,g,[],[],a,_,ha,_,_=>by simp at ha
 | f,g,x::Rs,y::Rs',0,hl,ha,hs,hp=>by
  have h0:=hs 0 (by simp) (by simp)
  have h1:=hp (by simp)
  simp only [List.getElem_cons_zero,if_true] at h0 h1
  have hr:Rs'.map g=Rs.map f:=by
   apply List.ext_getElem
   ·simpa using hl
   ·intro t q1 q2
    rw [List.getElem_map,List.getElem_map]
    have:=hs (t+1) (by simpa using q2) (by simpa using q1)
    simpa using this
  simp only [List.map_cons,List.sum_cons,hr]
  omega
 | f,g,x::Rs,y::Rs',a+1,hl,ha,hs,hp=>by
  have h0:=hs 0 (by simp) (by simp)
  simp only [List.getElem_cons_zero] at h0
  rw [if_neg (by omega)] at h0
  have ih:=sum_nth f g Rs Rs' a (by simpa using hl) (by simpa using ha) (fun t h h'=>by
   have:=hs (t+1) (by simpa using h) (by simpa using h')
   simpa using this) (fun h=>hp (Nat.succ_lt_succ h))
  simp only [List.map_cons,List.sum_cons]
  omega
theorem SentS.done {k:Nat} {Rs:Rm} {G:List GOp} (h:RmI k Rs G) (hk:k≤600) {a:Nat} (ha:a<Rs.length) {p:GOp} (hp:Rs[a].2.H.ops[Rs[a].2.got]? =some p) {Rs':Rm} (hs:SentS Rs a Rs.length p Rs'):RmI k Rs' (G++ [p]):=by
 have ma:=List.getElem_mem ha
 have hga:=h.got _ ma
 have hla:Rs[a].2.got<Rs[a].2.H.ops.length:=by
  rcases Nat.lt_or_ge Rs[a].2.got Rs[a].2.H.ops.length with h | h
  ·exact h
  ·rw [List.getElem?_eq_none h] at hp;cases hp
 have hpe:Rs[a].2.H.ops[Rs[a].2.got] =p:=by rw [List.getElem?_eq_getElem hla] at hp;exact Option.some.inj hp
 have hpm:p∈Rs[a].2.H.ops:=hpe ▸ List.getElem_mem hla
 have hpc:p.c=Rs[a].2.u:=h.pd _ ma p (List.mem_iff_getElem?.2 ⟨0,by rw [List.getElem?_drop,Nat.add_zero];exact hp⟩)
 have hua:=h.us a _ (List.getElem?_eq_getElem ha)
 have key: ∀r'∈Rs',∃t,∃(h1:t<Rs.length) (h2:t<Rs'.length),r'=Rs'[t] ∧((t=a∧Rs'[t].2=confD Rs[t].2)∨(t≠a∧Rs'[t].2=K4 Rs[t].2 p∧Good Rs[t].2.H Rs[t].2.got p)):=fun r' hr'=>by
  obtain ⟨t,ht,rfl⟩:=List.mem_iff_getElem.1 hr'
  have ht1:t<Rs.length:=by rw [←hs.len];exact ht
  refine ⟨t,ht1,ht,V,?_⟩
  have:=hs.st t ht1 ht
  by_cases e:t=a
  ·exact .inl ⟨e,by rw [this,if_pos e]⟩
  ·exact .inr ⟨e,by rw [this,if_neg e,if_pos ht1],h.good hk ha hp ht1 e⟩
 have hpend: ∀(t:Nat) (h1:t<Rs.length) (h2:t<Rs'.length),pendN Rs'[t].2=if t=a then pendN Rs[t].2-1 else pendN Rs[t].2:=fun t h1 h2=>by
  have mt:=List.getElem_mem h1
  rcases key _ (List.getElem_mem h2) with ⟨t',g1,g2,e,hh⟩
  have:=hs.st t h1 h2
  by_cases e:t=a
  ·rw [if_pos e] at this ⊢
   rw [this]
   unfold pendN confD
   simp only
   omega
  ·rw [if_neg e,if_pos h1] at this
   rw [if_neg e,this]
   have g:=h.good hk ha hp h1 e
   have hl:=(take_ops (h.dv _ mt).di g)
   have hlen:=congrArg List.length hl.1
   have hsl:=hl.2.length
   have hrc:=(h.ok _ mt).rc
   simp only [List.length_append,List.length_take,List.length_cons,List.length_nil,hsl,List.length_drop] at hlen
   unfold pendN
   show (K4 Rs[t].2 p).H.ops.length-(Rs[t].2.got+1)=_
   omega
 refine ⟨by rw [hs.len];exact h.len,hs.ok,fun r hr=> ?_,fun r hr=> ?_,fun i r hi=> ?_,fun r hr=> ?_,fun r hr=> ?_,?_,fun r hr=> ?_⟩
 ·obtain ⟨t,h1,h2,rfl,⟨_,e⟩ | ⟨hne,e,g⟩⟩:=key r hr
  ·rw [e];exact (h.dv _ (List.getElem_mem h1)).conf
  ·have mt:=List.getElem_mem h1
   have hut:=h.us t _ (List.getElem?_eq_getElem h1)
   rw [e]
   exact (h.dv _ mt).take g (by have:=(h.n _ mt).1;omega) (by rw [hpc];omega) ((h.dv _ ma).wb p hpm) (h.ok _ mt).rc
 ·obtain ⟨t,h1,h2,rfl,⟨_,e⟩ | ⟨hne,e,g⟩⟩:=key r hr
  ·rw [e];exact h.lm _ (List.getElem_mem h1)
  ·rw [e];exact h.lm _ (List.getElem_mem h1)
 ·have hil:i<Rs'.length:=by
   rcases Nat.lt_or_ge i Rs'.length with h | h
   ·exact h
   ·rw [List.getElem?_eq_none h] at hi;cases hi
  rw [List.getElem?_eq_getElem hil] at hi
  obtain rfl:=Option.some.inj hi
  have hil1:i<Rs.length:=by rw [←hs.len];exact hil
  have hu:=h.us i _ (List.getElem?_eq_getElem hil1)
  rw [hs.st i hil1 hil]
  by_cases e:i=a
  ·rw [if_pos e];exact hu
  ·rw [if_neg e,if_pos hil1];exact hu
 ·obtain ⟨t,h1,h2,rfl,⟨hta,e⟩ | ⟨hne,e,g⟩⟩:=key r hr
  ·subst hta
   rw [e]
   show Rs[t].2.H.ops.take (Rs[t].2.got+1)=_∧Rs[t].2.got+1=_
   rw [List.take_succ_eq_append_getElem hla,hpe,hga.1,List.length_append,←hga.2]
   exact ⟨V,V⟩
  ·have mt:=List.getElem_mem h1
   have hgt:=h.got _ mt
   have hrc:=(h.ok _ mt).rc
   rw [e]
   show (K4 Rs[t].2 p).H.ops.take (Rs[t].2.got+1)=_∧Rs[t].2.got+1=_
   rw [(take_ops (h.dv _ mt).di g).1,List.length_append,←hgt.2]
   have hlt:(Rs[t].2.H.ops.take Rs[t].2.got).length=Rs[t].2.got:=by rw [List.length_take];omega
   refine ⟨?_,V⟩
   rw [←List.append_assoc,List.take_left' (by rw [List.length_append,hlt];rfl),hgt.1]
 ·obtain ⟨t,h1,h2,rfl,⟨hta,e⟩ | ⟨hne,e,g⟩⟩:=key r hr
  ·rw [e]
   intro o ho
   refine h.pd _ (List.getElem_mem h1) o ?_
   have ho2:o∈Rs[t].2.H.ops.drop (Rs[t].2.got+1):=ho
   rw [←List.drop_drop] at ho2
   exact List.mem_of_mem_drop ho2
  ·have mt:=List.getElem_mem h1
   have hrc:=(h.ok _ mt).rc
   rw [e]
   intro o ho
   have ho2:o∈(K4 Rs[t].2 p).H.ops.drop (Rs[t].2.got+1):=ho
   have hl:=take_ops (h.dv _ mt).di g
   have hlt:(Rs[t].2.H.ops.take Rs[t].2.got).length=Rs[t].2.got:=by rw [List.length_take];omega
   rw [hl.1,←List.append_assoc,List.drop_left' (by rw [List.length_append,hlt];rfl)] at ho2
   obtain ⟨y,hy,hxy⟩:=hl.2.mem o ho2
   rw [hxy.c];exact h.pd _ mt y hy
 ·have h1:=sum_nth (fun r=>pendN r.2) (fun r=>pendN r.2) Rs Rs' a hs.len ha hpend (fun _=>by show 0<Rs[a].2.H.ops.length-Rs[a].2.got;omega)
  have h2:=h.cnt
  rw [List.length_append,List.length_singleton]
  omega
 ·obtain ⟨t,h1,h2,rfl,⟨_,e⟩ | ⟨hne,e,g⟩⟩:=key r hr
  ·rw [e];exact h.md _ (List.getElem_mem h1)
  ·rw [e];exact h.md _ (List.getElem_mem h1)
def SentR (Rs:Rm) (a:Nat) (Rs':Rm):Prop:=(Rs'=Rs∧ ∃h:a<Rs.length,pendN Rs[a].2=0)∨ ∃(h:a<Rs.length) (p:GOp),Rs[a].2.H.ops[Rs[a].2.got]? =some p∧SentS Rs a Rs.length p Rs'
structure TakeOk (D:DS) (p:GOp):Prop where
 cu:p.c≠D.u
 c:1≤p.c∧p.c≤D.cl
 n:p.n≤D.op
 ts:p.text.size≤1048576
 ce:putA D p.c+Jr p≤D.ce
 ta:TaD D p
theorem RmI.takes {k:Nat} {Rs:Rm} {G:List GOp} (h:RmI k Rs G) (hk:k≤600) {a:Nat} (ha:a<Rs.length) {p:GOp} (hp:Rs[a].2.H.ops[Rs[a].2.got]? =some p) {i:Nat} (hi:i<Rs.length) (hne:i≠a):TakeOk Rs[i].2 p:=by
 have ma:=List.getElem_mem ha
 have mi:=List.getElem_mem hi
 have g:=h.good hk ha hp hi hne
 have hua:=h.us a _ (List.getElem?_eq_getElem ha)
 have hui:=h.us i _ (List.getElem?_eq_getElem hi)
 have hpd:p∈Rs[a].2.H.ops.drop Rs[a].2.got:=List.mem_iff_getElem?.2 ⟨0,by rw [List.getElem?_drop,Nat.add_zero];exact hp⟩
 have hpc:=h.pd _ ma p hpd
 have hw:=(h.dv _ ma).wb p (List.mem_of_mem_drop hpd)
 have hlm:=h.lm _ mi
 have hb:=EJ g.idr
 have hn:=(h.n _ mi).1
 have hpu:=(h.dv _ mi).put_ p.c
 have hl:=h.len
 have ht:=g.right.text
 exact ⟨by omega,by omega,by omega,by omega,by omega,g.tad (h.dv _ mi).di (by omega)⟩
theorem pend_head {D:DS} {p:GOp} (h:(D.H.ops.drop D.got)[0]? =some p):D.H.ops[D.got]? =some p∧ ∃hg:D.got<D.H.ents.length,D.H.ents[D.got].op=p:=by
 rw [List.getElem?_drop,Nat.add_zero] at h
 have hl:D.got<D.H.ops.length:=by
  rcases Nat.lt_or_ge D.got D.H.ops.length with h1 | h1
  ·exact h1
  ·rw [List.getElem?_eq_none h1] at h;cases h
 have hl2:D.got<D.H.ents.length:=by rw [←Ky];exact hl
 refine ⟨h,hl2,?_⟩
 rw [List.getElem?_eq_getElem hl] at h
 rw [←Option.some.inj h]
 simp [Hist.ops]
theorem _root_.Go.GW.Sp.preSub {P:Program} {k:FuncId} {args:List Value} {Lin:List Part} {pre pre':List Fact} {res:Value→List Part→List Fact→Prop} (h:Sp P k args Lin pre res) (hs: ∀A∈pre,A∈pre'):Sp P k args Lin pre' res:=
 ⟨h.enters,fun Z w Ps As hst=>(h.calls Z w Ps (pre'++As) (hst.subFacts fun A hA=>by
  rcases List.mem_append.1 hA with hA | hA
  ·exact List.mem_append_left _ (hs A hA)
  ·exact hA)).mono fun e w' ⟨v,he,Z',Lo,fs,h1,h2⟩=>⟨v,he,Z',Lo,fs,h1,h2.subFacts fun A hA=>by
   rcases List.mem_append.1 hA with hA | hA
   ·exact List.mem_append_left _ hA
   ·exact List.mem_append_right _ (List.mem_append_right _ hA)⟩⟩
theorem room_self (Rs:Rm) {i:Nat} (hi:i<Rs.length):Rs.set i (Rs[i].1,Rs[i].2)=Rs:=List.set_getElem_self hi
theorem pend_r (Rs:Rm) (a:Nat) (ha:a<Rs.length) (hok:DkOk Rs[a].1 Rs[a].2):Sp Tryz.prog 58 [.pointer (some ⟨Rs[a].1.d,0,none⟩)] [Yb Rs] [barF,RoomF Rs] (fun v Lo fs=> ∃(A':Option Addr) (c':Nat),v= .slice A' (Rs[a].2.H.ops.drop Rs[a].2.got).length c'∧Lo= [Yb Rs] ∧fs= [RdF opD A' c' (Rs[a].2.H.ops.drop Rs[a].2.got)]):=by
 refine ((Hj Rs[a].1 Rs[a].2 hok).room (pre:= [barF]) a ha (fun v M2 D2 gs=>M2=Rs[a].1∧D2=Rs[a].2∧ ∃(A':Option Addr) (c':Nat),v= .slice A' (Rs[a].2.H.ops.drop Rs[a].2.got).length c'∧gs= [RdF opD A' c' (Rs[a].2.H.ops.drop Rs[a].2.got)]) ?_).monoF ?_
 ·rintro v Lo fs ⟨A',c',rfl,rfl,rfl⟩
  refine ⟨_,_,[RdF opD A' c' (Rs[a].2.H.ops.drop Rs[a].2.got)],⟨V,V,A',c',V,V⟩,V,fun A hA=> ?_⟩
  rcases List.mem_append.1 hA with hA | hA
  ·exact List.mem_append_right _ (List.mem_append_right _ hA)
  ·exact List.mem_append_left _ hA
 ·rintro v Lo fs ⟨_,_,_,⟨rfl,rfl,A',c',rfl,rfl⟩,rfl,rfl⟩
  rw [room_self Rs ha]
  exact ⟨_,⟨A',c',V,V,V⟩,fun A hA=>List.mem_append_left _ (.tail _ hA)⟩
theorem conf_r (Rs:Rm) (a:Nat) (ha:a<Rs.length) (hok:DkOk Rs[a].1 Rs[a].2) (i0 i1:Int) (hg:Rs[a].2.got<Rs[a].2.H.ents.length) (hi0:Rs[a].2.H.ents[Rs[a].2.got].op.c=i0) (hi1:Rs[a].2.H.ents[Rs[a].2.got].op.n=i1):Sp Tryz.prog 59 [.pointer (some ⟨Rs[a].1.d,0,none⟩), .agg #[.int .i64 i0, .int .i64 i1]] [Yb Rs] [barF,RoomF Rs] (fun v Lo fs=>DkOk Rs[a].1 (confD Rs[a].2)∧v= .nilIface∧Lo= [Yb (Rs.set a (Rs[a].1,confD Rs[a].2))] ∧fs= [RoomF (Rs.set a (Rs[a].1,confD Rs[a].2))]):=by
 refine ((confirm_0 Rs[a].1 Rs[a].2 hok i0 i1 hg hi0 hi1).room (pre:= [barF]) a ha (fun v M2 D2 gs=>M2=Rs[a].1∧D2=confD Rs[a].2∧DkOk Rs[a].1 (confD Rs[a].2)∧v= .nilIface∧gs= []) ?_).mono ?_
 ·rintro v Lo fs ⟨hk,rfl,rfl,rfl⟩
  exact ⟨_,_,[],⟨V,V,hk,V,V⟩,V,fun A hA=>List.mem_append_right _ (List.mem_append_right _ (by rw [List.append_nil] at hA;exact hA))⟩
 ·rintro v Lo fs ⟨_,_,_,⟨rfl,rfl,hk,rfl,rfl⟩,rfl,rfl⟩
  exact ⟨hk,V,V,V⟩
theorem take_r (Rs:Rm) (a:Nat) (ha:a<Rs.length) (hok:DkOk Rs[a].1 Rs[a].2) (o:GOp) (Ao:Option Addr) (co:Nat) (hcu:o.c≠Rs[a].2.u) (hc:1≤o.c∧o.c≤Rs[a].2.cl) (hn:o.n≤Rs[a].2.op) (hts:o.text.size≤1048576) (hce:putA Rs[a].2 o.c+Jr o≤Rs[a].2.ce) (hta:TaD Rs[a].2 o):Sp Tryz.prog 60 [.pointer (some ⟨Rs[a].1.d,0,none⟩),opV o Ao co] [Yb Rs] [barF,RdF rgD Ao co o.rs,RoomF Rs] (fun v Lo fs=> ∃M2:DM,M2.d=Rs[a].1.d∧DkOk M2 (K4 Rs[a].2 o)∧v= .nilIface∧Lo= [Yb (Rs.set a (M2,K4 Rs[a].2 o))] ∧fs= [RoomF (Rs.set a (M2,K4 Rs[a].2 o))]):=by
 refine (((take_0 Rs[a].1 Rs[a].2 hok o Ao co hcu hc hn hts hce hta).preSub (pre':= [barF,RdF rgD Ao co o.rs] ++KY Rs[a].1 Rs[a].2) (fun A hA=> ?_)).room (pre:= [barF,RdF rgD Ao co o.rs]) a ha (fun v M2 D2 gs=>M2.d=Rs[a].1.d∧D2=K4 Rs[a].2 o∧DkOk M2 (K4 Rs[a].2 o)∧v= .nilIface∧gs= []) ?_).mono ?_
 ·simp only [List.mem_append,List.mem_cons,List.not_mem_nil,or_false] at hA ⊢
  rcases hA with (rfl | rfl | rfl | rfl) | rfl<;>simp
 ·rintro v Lo fs ⟨M2,hd,hk,rfl,rfl,rfl⟩
  exact ⟨M2,_,[],⟨hd,V,hk,V,V⟩,V,fun A hA=>List.mem_append_left _ (by rw [List.append_nil] at hA;exact hA)⟩
 ·rintro v Lo fs ⟨M2,_,_,⟨hd,rfl,hk,rfl,rfl⟩,rfl,rfl⟩
  exact ⟨M2,hd,hk,V,V,V⟩
theorem acted_r (Rs:Rm) (a:Nat) (ha:a<Rs.length) (hok:DkOk Rs[a].1 Rs[a].2) (hv:DV Rs[a].2) (hb:Bd Rs[a].2) (x:GAct) (k n:Nat) (hn:1≤n∧n≤8):Sp Tryz.prog 25 [.pointer (some ⟨Rs[a].1.d,0,none⟩),actV x, .int .i64 k, .int .i64 n] [Yb Rs] [barF,wordsF,RoomF Rs] (fun v Lo fs=> ∃M2 D2,Acted Rs[a].2 D2∧DV D2∧M2.d=Rs[a].1.d∧DkOk M2 D2∧v= .bool true∧Lo= [Yb (Rs.set a (M2,D2))] ∧fs= [RoomF (Rs.set a (M2,D2))]):=by
 refine ((Ja9 Rs[a].1 Rs[a].2 hok hv hb x k n hn).room (pre:= [barF,wordsF]) a ha (fun v M2 D2 gs=>Acted Rs[a].2 D2∧DV D2∧M2.d=Rs[a].1.d∧DkOk M2 D2∧v= .bool true∧gs= []) ?_).mono ?_
 ·rintro v Lo fs ⟨rfl,M2,D2,h1,h2,h3,h4,rfl,rfl⟩
  exact ⟨M2,D2,[],⟨h1,h2,h3,h4,V,V⟩,V,fun A hA=>List.mem_append_left _ (by rw [List.append_nil] at hA;exact hA)⟩
 ·rintro v Lo fs ⟨M2,D2,_,⟨h1,h2,h3,h4,rfl,rfl⟩,rfl,rfl⟩
  exact ⟨M2,D2,h1,h2,h3,h4,V,V,V⟩
theorem Jbn (k:Nat) (Rs:Rm) (G:List GOp) (hR:RmI k Rs G) (hk:k≤600) (A1:Option Addr) (c1:Nat) (a:Nat) (ha:a<Rs.length):Sp Tryz.prog 24 [.slice A1 Rs.length c1, .int .i64 a] [Yb Rs] [barF,RoomF Rs,adsF A1 c1 Rs] (fun v Lo fs=> ∃Rs2 G2,RmI k Rs2 G2∧SentR Rs a Rs2∧(Rs2.map fun r=>r.1.d)=(Rs.map fun r=>r.1.d)∧v= .bool true∧Lo= [Yb Rs2] ∧fs= [RoomF Rs2]):=by
 have hlen:=hR.len
 have hoka:=hR.ok _ (List.getElem_mem ha)
 refine Sp.of (n:=47) ⟨_,Tryz.func24,V,V,V,V⟩ (Nat.le_of_ble_eq_true V) fun Ps As=>Jc (Ja (Lq (Jd V) (Je (Jf (Jc (Kd (k:=a) Mm2 (by rw [List.getElem?_map,List.getElem?_eq_getElem ha];rfl) (pt_open _) fun b1 q1 y1 e1=> ?_))))))
 cases e1
 refine Ja (Lq (Jb V) (Lq (Jb V) (Lq (J0 Un25 E3 V V (by omega) (by omega)) (Lq (Kk (j:=0) Un29 V V Mm0 V V) (Jg V (JU (pend_r Rs a ha hoka) (.n1 V) (by decide) .z (Jl Mm1 (Jl Mm2 Jx)) fun _ _ _ q9=>?_))))))
 obtain ⟨A9,c9,rfl,rfl,rfl⟩:=q9
 refine Lq (Jd V) (Je (Jf (Jc (Jc (Ja (Lq (Jb V) (Lq (J4 Un53 V) (Lq (Kb V V) (Je (Jf (Jz V (fun h14=> ?_) (fun h14=> ?_))))))))))))
 ·refine Jc (Ja (Lq (Jd V) (Je (Jf (Jp (Jt ?_))))))
  refine ⟨_,[_],[_],fun Z w hs=> .tmp V .nil,?_,fun Z w hs=>hs.out (Sk (Sr)) (Jl Mm3 Tt2)⟩
  refine ⟨Rs,G,hR, .inl ⟨V,ha,?_⟩,V,V,V,V⟩
  have h:=h14
  simp at h
  unfold pendN;omega
 ·have hpl:0<(Rs[a].2.H.ops.drop Rs[a].2.got).length:=by have h:=h14;simp at h;rw [List.length_drop];omega
  obtain ⟨p,hp0⟩: ∃p,(Rs[a].2.H.ops.drop Rs[a].2.got)[0]? =some p:=⟨_,List.getElem?_eq_getElem hpl⟩
  obtain ⟨hp,hge,hpe⟩:=pend_head hp0
  have hprs:p.rs.length≤4398046511104:=by have h:=(hoka.hr.fit _ (List.getElem_mem hge)).rs;rw [hpe] at h;exact h
  refine Jo (Jf (Jc (Jc (Kd (k:=0) Mm0 hp0 (op_open _) fun b4 q4 y4 e4=> ?_))))
  cases e4
  refine JI _ _ [] (.c 0 0 (.c 1 0 (.c 2 0 (.c 3 0 (.c 4 0 (.c 5 0 (.c 6 0 (.c 7 0 (.c 8 0 (.c 9 2 (.c 10 0 .nil))))))))))) mixed (fun _ _ _ _ h=>h) (Sd (Sr)) (fun _ h=>h) (by kernel_rfl) (by decide) fun ws Z0=>Qe V (Jb V) (Qe V (Jb V) (Qe V (J0 Un25 E3 V V (by omega) (by omega)) (Qe V (Kk (j:=0) Un29 V V Mm3 V V) (Qe V (Jb V) (Qe V (J0 Un53 JA V V (by omega) (by omega)) (Qe V (Jh (o':=_+0) Un60 V KM V V) (Qe V (Jh (o':=_+0) Un58 V JW V V) (Qe V (Kg (k:=0) (vs:= [_,_]) Un43 V JW V Mm0 V V V) ?_))))))))
  refine Jy V V (JU (conf_r Rs a ha hoka p.c p.n hge (by rw [hpe]) (by rw [hpe])) (.n2 V V) (by decide) .z (Jl Mm5 (Jl Mm6 Jx)) fun _ _ _ q9=>?_)
  obtain ⟨hck,rfl,rfl,rfl⟩:=q9
  refine ⟨⟨(Sd (Sr)),Mm1⟩,?_⟩
  refine Qe V (KW Un49 V) (JK (JJ (Jf (Ju V V (Jo (Jf (Jc (Jc (Ja (Lq (Jd V) (Je (Jf (JD ?_)))))))))))))
  refine Ke (α:=Nat×Rm) (fun (i,Rs2)=>Rs.length-i)
   (fun (i,Rs2)=> [(0, .slice (some ⟨b1,q1,none⟩) Rs.length c1),(1, .int .i64 a),(5, .slice (some ⟨b4,q4,none⟩) (Rs[a].2.H.ops.drop Rs[a].2.got).length c9),(6, .int .i64 i)])
   (fun (i,Rs2)=>(Yb Rs2::Ps))
   (fun (i,Rs2)=>(RoomF Rs2::RdF opD (some ⟨b4,q4,none⟩) c9 (Rs[a].2.H.ops.drop Rs[a].2.got)::barF::RoomF Rs::adsF (some ⟨b1,q1,none⟩) c1 Rs::As))
   (fun (i,Rs2)=>i≤Rs.length∧SentS Rs a i p Rs2)
   (0,Rs.set a (Rs[a].1,confD Rs[a].2)) ?_ (.m4 rfl rfl rfl rfl) (Sk (Sr)) (Jl Mm0 (Jl Mm4 Tt6)) ?_
  ·exact ⟨Nat.zero_le _,SentS.zero ha hR.ok p hck⟩
  ·rintro ⟨i,Rs2⟩ hI
   have hile:i≤Rs.length:=hI.1
   refine Jc (Jc (Ja (Lq (Jb V) (Lq (Jb V) (Lq (J4 Un25 V) (Lq (Km V V) (Je (Jf (Jz V (fun h29=> ?_) (fun h29=> ?_))))))))))
   ·refine Jo (Jf (Jc (JD (Jc ?_))))
    have hi:i<Rs.length:=by have h:=h29;simp only [decide_eq_true_eq] at h;omega
    have hi2:i<Rs2.length:=by rw [hI.2.len];exact hi
    have hS:=hI.2
    refine Kd (k:=i) Mm4 (by rw [←hS.d,List.getElem?_map,List.getElem?_eq_getElem hi2];rfl) (pt_open _) fun b9 q9 y9 e9=> ?_
    cases e9
    refine Kd (k:=0) Mm2 hp0 (op_open _) fun b8 q8 y8 e8=> ?_
    cases e8
    refine JI _ _ [] (.c 0 0 (.c 1 0 (.c 2 0 (.c 3 0 (.c 4 0 (.c 5 0 (.c 6 0 (.c 7 0 (.c 8 0 (.c 9 0 (.c 10 0 (.c 11 2 (.c 12 2 (.c 13 0 (.c 14 0 .nil))))))))))))))) mixed (fun _ _ _ _ h=>h) (Sd (Sr)) (fun _ h=>h) (by kernel_rfl) (by decide) fun ws Z0=>Qe V (Jb V) (Qe V (Jb V) (Qe V (Kr V V) (Qe V (Jb V) (Jaa (t:=35) V (fun g35=> ?_) (fun g35=> ?_)))))
    ·refine Kj V V V V g35 (Jb V) (by decide) (Kj V V V V g35 (Jb V) (by decide) (Kj V V V V g35 (J0 Un25 E3 V V (by omega) (by omega)) (by decide) (Kj V V V V g35 (Kk (j:=0) Un29 V V Mm2 V V) (by decide) (Kj V V V V g35 (Jb V) (by decide) (Kj V V V V g35 (J0 Un53 JA V V (by omega) (by omega)) (by decide) (Kj V V V V g35 (Kg (k:=0) (vs:= [_,_,_,_,_,_,_,_,_]) Un60 V JA V Mm0 V V V) (by decide) (Qh V V V V V g35 (Jm (ZU p y8.1 y8.2 hprs) (.n1 V) (by decide) (Jl Mm2 Jx) fun _ _ _ q9=>?_))))))))
     obtain ⟨A8,c8,rfl,rfl,rfl⟩:=q9
     refine ⟨⟨(Sd (Sr)),Mm1⟩,?_⟩
     have hne:i≠a:=by have h:=g35;simp at h;omega
     have hold:=hS.old hne hi hi2
     have htk:=hR.takes hk ha hp hi hne
     refine Qh V V V V V g35 (JU (take_r Rs2 i hi2 (hS.ok _ (List.getElem_mem hi2)) p A8 c8 (by rw [hold];exact htk.cu) (by rw [hold];exact htk.c) (by rw [hold];exact htk.n) htk.ts (by rw [hold];exact htk.ce) (by rw [hold];exact htk.ta)) (.n2 V V) (by decide) .z (Jl Mm7 (Jl Mm0 (Jl Mm5 Jx))) fun _ _ _ q9=>?_)
     obtain ⟨M2,hd2,hk2,rfl,rfl,rfl⟩:=q9
     refine ⟨⟨(Sd (Sr)),Mm2⟩,?_⟩
     refine Kj V V V V g35 (KW Un49 V) (by decide) (Qe V (JO V g35 V) (JK (JJ (Jf (Ju V V (Jo (J7 (Jf (Ja (Lq (Jb V) (Lq (JQ V V (wr64 (by omega)) (c:=((i+1:Nat):Int))) (Lq (Jd V) (Je (Ko ?_))))))))))))))
     refine ⟨(i+1,Rs2.set i (M2,K4 Rs2[i].2 p)),?_,(.m4 V V V V),(Sk (Sr)),(Jl Mm0 Tt7)⟩
     exact ⟨by show Rs.length-(i+1)<Rs.length-i;omega,by show i+1≤Rs.length;omega,hS.take hne hi hi2 hd2 hk2⟩
    ·refine KB V V V V g35 (by decide) (KB V V V V g35 (by decide) (KB V V V V g35 (by decide) (KB V V V V g35 (by decide) (KB V V V V g35 (by decide) (KB V V V V g35 (by decide) (KB V V V V g35 (by decide) (Ew V V V V g35 (by decide) (Ew V V V V g35 (by decide) (KB V V V V g35 (by decide) ?_)))))))))
     refine Qe V (JL V g35 V) (JK (JJ (Jf (Ju V V (Jo (J7 (Jf (Ja (Lq (Jb V) (Lq (JQ V V (wr64 (by omega)) (c:=((i+1:Nat):Int))) (Lq (Jd V) (Je (Ko ?_)))))))))))))
     refine ⟨(i+1,Rs2),?_,(.m4 V V V V),(Sk (Sr)),Tt4⟩
     have hia:i=a:=by have h:=g35;simp at h;omega
     subst hia
     exact ⟨by show Rs.length-(i+1)<Rs.length-i;omega,by show i+1≤Rs.length;omega,hS.skip⟩
   ·refine Kh (JH (JH (J6 (Jf (Jc (Ja (Lq (Jd V) (Je (Jf (Jp ?_))))))))))
    refine ⟨_,[_],[_],fun Z w hs=> .tmp V .nil,?_,fun Z w hs=>hs.out (Sk (Sr)) (Jl Mm0 Tt2)⟩
    have hie:i=Rs.length:=by have h:=h29;simp only [decide_eq_false_iff_not] at h;omega
    have hS:=hI.2
    rw [hie] at hS
    exact ⟨Rs2,G++ [p],hS.done hR hk ha hp, .inr ⟨ha,p,hp,hS⟩,hS.d,V,V,V⟩
theorem Jax (Rs:Rm) (G:List GOp) (hR:RmI 0 Rs G) (A1:Option Addr) (c1:Nat) (acts:List GAct) (B1:Option Addr) (cb:Nat):Sp Tryz.prog 6 [.slice A1 Rs.length c1, .slice B1 acts.length cb] [Yb Rs] [barF,wordsF,RoomF Rs,adsF A1 c1 Rs,RdF actD B1 cb acts] (fun v Lo fs=> ∃Rs2 G2,RmI 400 Rs2 G2∧(Rs2.map fun r=>r.1.d)=(Rs.map fun r=>r.1.d)∧v= .bool true∧Lo= [Yb Rs2] ∧fs= [RoomF Rs2]):=by
 have hlen:=hR.len
 refine Sp.of (n:=48) ⟨_,Tryz.func6,V,V,V,V⟩ (Nat.le_of_ble_eq_true V) fun Ps As=>Jc (Ja (Lq (Jd V) (Je (Jf (Jc (Jc (Ja (Lq (Jd V) (Je (Jf (JD ?_)))))))))))
 refine Ke (α:=Nat×Rm×List GOp) (fun (i,Rs2,G2)=>acts.length-i)
  (fun (i,Rs2,G2)=> [(0, .slice A1 Rs.length c1),(1, .slice B1 acts.length cb),(5, .int .i64 i)])
  (fun (i,Rs2,G2)=>(Yb Rs2::Ps))
  (fun (i,Rs2,G2)=>(RoomF Rs2::barF::wordsF::RoomF Rs::adsF A1 c1 Rs::RdF actD B1 cb acts::As))
  (fun (i,Rs2,G2)=>i≤400∧i≤acts.length∧RmI i Rs2 G2∧(Rs2.map fun r=>r.1.d)=(Rs.map fun r=>r.1.d))
  (0,Rs,G) ?_ (.m3 rfl rfl rfl) (Sk (Sr)) (Jl Mm2 (fun _ h=>h)) ?_
 ·exact ⟨Nat.zero_le _,Nat.zero_le _,hR,V⟩
 ·rintro ⟨i,Rs2,G2⟩ ⟨hi0,hi1,hR2,hm2⟩
  have hi0:i≤400:=hi0
  have hi1:i≤acts.length:=hi1
  have hR2:RmI i Rs2 G2:=hR2
  have hm2:(Rs2.map fun r=>r.1.d)=(Rs.map fun r=>r.1.d):=hm2
  have hlen2:Rs2.length=Rs.length:=by have h:=congrArg List.length hm2;simpa using h
  have hads:adsF A1 c1 Rs2=adsF A1 c1 Rs:=by unfold adsF;rw [hm2]
  refine Jc (Jc (Ja (Lq (Jb V) (Lq (Jb V) (Lq (J4 Un22 V) (Lq (Km V V) (Lq (Jb V) (J1 (t:=14) V (fun g14=> ?_) (fun g14=> ?_)))))))))
  ·refine Lg V V V g14 (Jb V) (Lg V V V g14 (Km V V) (Lq (JO V g14 V) (Je (Jf (Jz V (fun h17=> ?_) (fun h17=> ?_))))))
   ·refine Jo (Jf (Jc (JD (Jc ?_))))
    have hia:i<acts.length:=by have h:=g14;simp only [decide_eq_true_eq] at h;omega
    have hi4:i<400:=by have h:=h17;simp only [decide_eq_true_eq] at h;omega
    refine Kd (k:=i) Mm5 (List.getElem?_eq_getElem hia) (act_open _) fun b4 q4 y4 e4=> ?_
    cases e4
    refine Ja (Lq (Jb V) (Lq (Jb V) (Lq (J0 Un22 Zr V V (by omega) (by omega)) (Lq (Kg (k:=0) (vs:= [_,_,_,_,_,_]) Un74 V Zr V Mm0 V V V) (Jg V (Jw (cs:= [_,_,_,_,_,_]) Zr V (by decide) fun b6=>Jg V (Jq (cs':= [_,_,_,_,_,_]) (vs:= [_,_,_,_,_,_]) Zr V V V V V (Nat.le_of_ble_eq_true V) .z (Je (Jf (Jc (Ja (Lq (Jh (o':=1) Un74 V ti3 V V) (Lq (Jk Un3 V V Jn V) ?_)))))))))))))
    refine Jg V (Jm (KZ acts[i].kind 9 (by omega)) (.n2 V V) (by decide) Jx fun _ _ _ q9=>?_)
    obtain ⟨kk,hkk,_,rfl,rfl,rfl⟩:=q9
    refine Lq (Jd V) (Je (Jf (Jc (Ja (Lq (Jh (o':=0) Un74 V ti3 V V) (Lq (Jk Un3 V V Jn V) (Lq (Jb V) (Lq (J4 Un25 V) (Jg V (Jm (KZ acts[i].who Rs.length (by omega)) (.n2 V V) (by decide) Jx fun _ _ _ q9=>?_))))))))))
    obtain ⟨w,hw,_,rfl,rfl,rfl⟩:=q9
    refine Lq (Jd V) (Je (Jf (Jc (Ja (Lq (Jd V) (Je (Jf (Jc (Jc (Ja (Lq (Jb V) (Lq (Yc V V) (Je (Jf (Jz V (fun h33=> ?_) (fun h33=> ?_))))))))))))))))
    ·refine Ja (Lq (Jb V) (Lq (Jb V) ?_))
     have hs:=Jbn i Rs2 G2 hR2 (by omega) A1 c1 w (by omega)
     rw [hlen2,hads] at hs
     refine Jg V (JU (hs) (.n2 V V) (by decide) .z1 (Jl Mm2 (Jl Mm1 (Jl Mm5 Jx))) fun _ _ _ q9=>?_)
     obtain ⟨Rs3,G3,hR3,hSR,hm3,rfl,rfl,rfl⟩:=q9
     refine Lq (Jd V) (Je (Jf (Jc (Ja (Lq (Jb V) (Lq (KU V) (Je (Jf (Ju V V (Jo (J7 (Jf (Ja (Lq (Jb V) (Lq (JQ V V (wr64 (by omega)) (c:=((i+1:Nat):Int))) (Lq (Jd V) (Je (Ko ?_))))))))))))))))))
     refine ⟨(i+1,Rs3,G3),?_,(.m3 V V V),(Sk (Sd (Sr))),(Jl Mm0 Tt3)⟩
     exact ⟨by show acts.length-(i+1)<acts.length-i;omega,by show i+1≤400;omega,by show i+1≤acts.length;omega,hR3.mono (by omega),hm3.trans hm2⟩
    ·have hw2:w<Rs2.length:=by omega
     refine Kd (k:=w) Mm5 (by rw [←hm2,List.getElem?_map,List.getElem?_eq_getElem hw2];rfl) (pt_open _) fun b10 q10 y10 e10=> ?_
     cases e10
     refine JI _ _ [] (.c 0 0 (.c 1 0 (.c 2 0 (.c 3 0 (.c 4 0 (.c 5 0 (.c 6 0 (.c 7 0 (.c 8 2 (.c 9 0 .nil)))))))))) mixed (fun _ _ _ _ h=>h) (Sk (Sd (Sr))) (fun _ h=>h) (by kernel_rfl) (by decide) fun ws Z0=>Qe V (Jb V) (Qe V (Jb V) (Qe V (J0 Un25 E3 V V (by omega) (by omega)) (Qe V (Kk (j:=0) Un29 V V Mm0 V V) (Qe V (Js (vs:= [_,_,_,_,_,_]) Un74 V Zr V Jn V V) (Qe V (Jb V) (Qe V (Jb V) (Qe V (J4 Un25 V) ?_)))))))
     refine Jy V V (JU (acted_r Rs2 w hw2 (hR2.ok _ (List.getElem_mem hw2)) (hR2.dv _ (List.getElem_mem hw2)) (hR2.bd (by omega) _ (List.getElem_mem hw2)) acts[i] kk Rs.length (by omega)) (.n4 V V V V) (by decide) .z1 (Jl Mm4 (Jl Mm5 (Jl Mm3 Jx))) fun _ _ _ q9=>?_)
     obtain ⟨M3,D3,hac,hdv,hd3,hk3,rfl,rfl,rfl⟩:=q9
     refine ⟨⟨(Sd (Sk (Sr))),Mm1⟩,?_⟩
     refine Qe V (Jd V) (JK (JJ (Jf (Jc (Ja (Lq (Jb V) (Lq (KU V) (Je (Jf (Ju V V (Jo (J7 (Jf (Ja (Lq (Jb V) (Lq (JQ V V (wr64 (by omega)) (c:=((i+1:Nat):Int))) (Lq (Jd V) (Je (Ko ?_)))))))))))))))))))
     refine ⟨(i+1,Rs2.set w (M3,D3),G2),?_,(.m3 V V V),(Sk (Sd (Sr))),(Jl Mm0 Tt5)⟩
     exact ⟨by show acts.length-(i+1)<acts.length-i;omega,by show i+1≤400;omega,by show i+1≤acts.length;omega,hR2.act hw2 hac hdv hk3,(map_set_d hw2 hd3).trans hm2⟩
   ·refine Kh (JH (JH (J6 (Jf (Jc (Ja (Lq (Jd V) (Je (Jf (Jp ?_))))))))))
    refine ⟨_,[_],[_],fun Z w hs=> .tmp V .nil,?_,fun Z w hs=>hs.out (Sk (Sr)) (fun _ h=>h)⟩
    exact ⟨Rs2,G2,hR2.mono hi0,hm2,V,V,V⟩
  ·refine Ln V V V g14 (Ln V V V g14 (Lq (JL V g14 V) (Je (Jf (Ju V V (Kh (JH (JH (J6 (Jf (Jc (Ja (Lq (Jd V) (Je (Jf (Jp ?_))))))))))))))))
   refine ⟨_,[_],[_],fun Z w hs=> .tmp V .nil,?_,fun Z w hs=>hs.out (Sk (Sr)) (fun _ h=>h)⟩
   exact ⟨Rs2,G2,hR2.mono hi0,hm2,V,V,V⟩
structure RmO (Rs:Rm):Prop where
 ok: ∀r∈Rs,DkOk r.1 r.2
 st: ∀(i:Nat) r,Rs[i]? =some r→r.2=zeroD ((i:Int)+1) 4 4096 1024
theorem RmO.nil:RmO [] :=⟨nofun,fun _ _ h=>by simp at h⟩
theorem RmO.add {Rs:Rm} (h:RmO Rs) {M:DM} (hk:DkOk M (zeroD ((Rs.length:Int)+1) 4 4096 1024)):RmO (Rs++ [(M,zeroD ((Rs.length:Int)+1) 4 4096 1024)]):=by
 refine ⟨fun r hr=> ?_,fun i r hi=> ?_⟩
 ·rcases List.mem_append.1 hr with hr | hr
  ·exact h.ok r hr
  ·rw [List.mem_singleton.1 hr];exact hk
 ·rcases Nat.lt_trichotomy i Rs.length with hl | rfl | hl
  ·rw [List.getElem?_append_left hl] at hi;exact h.st i r hi
  ·rw [List.getElem?_append_right (Nat.le_refl _),Nat.sub_self] at hi
   rw [←Option.some.inj hi]
  ·rw [List.getElem?_eq_none (by simp;omega)] at hi;cases hi
theorem DV.zero {u:Int} (hu:1≤u∧u≤8) (cl ce op:Int):DV (zeroD u cl ce op):=
 ⟨hu,nofun,nofun,fun x hx=>(by rw [List.eq_of_mem_replicate hx];exact ⟨Int.le_refl _,Int.natCast_nonneg _⟩),nofun,DI.zero,rfl⟩
theorem RmO.rm {Rs:Rm} (h:RmO Rs) (hl:2≤Rs.length∧Rs.length≤4):RmI 0 Rs [] :=by
 have key: ∀r∈Rs,∃i:Nat,i<4∧r.2=zeroD ((i:Int)+1) 4 4096 1024:=fun r hr=>by
  obtain ⟨i,hi,rfl⟩:=List.mem_iff_getElem.1 hr
  exact ⟨i,by omega,h.st i _ (List.getElem?_eq_getElem hi)⟩
 refine ⟨hl,h.ok,fun r hr=> ?_,fun r hr=> ?_,fun i r hi=> ?_,fun r hr=> ?_,fun r hr=> ?_,?_,fun r hr=> ?_⟩
 ·obtain ⟨i,hi,e⟩:=key r hr;rw [e];exact DV.zero (by omega) _ _ _
 ·obtain ⟨i,hi,e⟩:=key r hr;rw [e];exact ⟨rfl,rfl,rfl⟩
 ·rw [h.st i r hi];rfl
 ·obtain ⟨i,hi,e⟩:=key r hr;rw [e];exact ⟨rfl,rfl⟩
 ·obtain ⟨i,hi,e⟩:=key r hr;rw [e];intro o ho;cases ho
 ·have e:(Rs.map fun r=>pendN r.2)=List.replicate Rs.length 0:=by
   apply List.eq_replicate_iff.2
   refine ⟨by simp,fun x hx=> ?_⟩
   obtain ⟨r,hr,rfl⟩:=List.mem_map.1 hx
   obtain ⟨i,hi,e⟩:=key r hr
   rw [e];rfl
  rw [e];simp
 ·obtain ⟨i,hi,e⟩:=key r hr;rw [e];exact Nat.le_refl 0
theorem _root_.Go.GW.Sp.roomAdd {P:Program} {k:FuncId} {args:List Value} {res:Value→List Part→List Fact→Prop} (Rs:Rm) (h:Sp P k args [] [] res) (post:Value→DM→DS→Prop)
  (hr: ∀v Lo fs,res v Lo fs→ ∃M2 D2,post v M2 D2∧Lo=KH M2 D2∧fs=KY M2 D2):
  Sp P k args [Yb Rs] [RoomF Rs] (fun v Lo fs=> ∃M2 D2,post v M2 D2∧Lo= [Yb (Rs++ [(M2,D2)])] ∧fs= [RoomF (Rs++ [(M2,D2)])]):=by
 refine ⟨h.enters,fun Z w Ps As hs=> ?_⟩
 have h1:St Z w ([] ++(Yb Rs::Ps)) ([] ++(RoomF Rs::As)):=hs
 refine (h.calls Z w _ _ h1).mono ?_
 rintro e w' ⟨v,rfl,Z',Lo,fs,g1,g2⟩
 obtain ⟨M2,D2,p1,rfl,rfl⟩:=hr v Lo fs g1
 refine ⟨v,V,Z',_,_,⟨M2,D2,p1,V,V⟩,?_⟩
 have hp:((KH M2 D2)++(Yb Rs::Ps)).flatten.Perm ([Yb (Rs++ [(M2,D2)])] ++Ps).flatten:=by
  have e:Yb (Rs++ [(M2,D2)])=Yb Rs++(KH M2 D2).flatten:=by
   unfold Yb YA
   rw [List.flatMap_append,List.flatten_append,List.flatMap_cons,List.flatMap_nil,List.append_nil]
  rw [e]
  generalize KH M2 D2=Q
  simp only [List.flatten_append,List.flatten_cons,List.cons_append,List.nil_append,List.append_assoc]
  exact List.perm_append_comm_assoc ..
 refine ⟨g2.zlt,fun q hq=>g2.own q (hp.symm.subset hq),(hp.map Prod.fst).nodup_iff.1 g2.nodup,fun A hA=> ?_⟩
 have hF:(RoomF Rs).holds Z' w':=g2.facts _ (by simp)
 rcases List.mem_append.1 hA with hA | hA
 ·rw [List.mem_singleton.1 hA]
  intro B hB
  have e:Vy (Rs++ [(M2,D2)])=Vy Rs++KY M2 D2:=by unfold Vy;rw [List.flatMap_append,List.flatMap_cons,List.flatMap_nil,List.append_nil]
  rw [e] at hB
  rcases List.mem_append.1 hB with hB | hB
  ·exact hF B hB
  ·exact g2.facts B (by simp only [List.mem_append];exact .inl hB)
 ·exact g2.facts A (List.mem_append_right _ (by simpa using hA))
def ptRow (Rs:Rm):List Value:=Rs.map fun r=> .pointer (some ⟨r.1.d,0,none⟩)
theorem H6 (Rs:Rm) (x:DM×DS):ptRow (Rs++ [x])=ptRow Rs++ [.pointer (some ⟨x.1.d,0,none⟩)] :=by unfold ptRow;rw [List.map_append];rfl
theorem ptRow_flat: ∀Rs:Rm,(((Rs.map fun (r:DM×DS)=>r.1.d).map fun x=> [(.pointer (some ⟨x,0,none⟩):Value)])).flatten=ptRow Rs
 | [] =>rfl
 | x::Rs=>by
  have h:=ptRow_flat Rs
  rw [List.map_cons,List.map_cons,List.flatten_cons,h];rfl
theorem pt_reps (Z:Nat→Prop) (w:World): ∀xs:List Nat,Reps (ptD.rep Z w) xs (xs.map fun x=> [.pointer (some ⟨x,0,none⟩)])
 | [] => .nil
 | x::xs=> .cons rfl (pt_reps Z w xs)
theorem dnew_r (Rs:Rm) (i:Nat) (hi:i=Rs.length) (h4:Rs.length<4):Sp Tryz.prog 16 [.int .i64 ((i+1:Nat):Int), .agg #[.int .i64 4, .int .i64 4096, .int .i64 1024]] [Yb Rs] [RoomF Rs] (fun v Lo fs=> ∃M2 D2,(v= .tuple #[.pointer (some ⟨M2.d,0,none⟩), .nilIface] ∧DkOk M2 D2∧D2=zeroD ((Rs.length:Int)+1) 4 4096 1024)∧Lo= [Yb (Rs++ [(M2,D2)])] ∧fs= [RoomF (Rs++ [(M2,D2)])]):=by
 subst hi
 have h:=ZP ((Rs.length:Int)+1) 4 4096 1024 (by omega) (by decide) (by decide) (by decide)
 refine Sp.roomAdd Rs h (fun v M2 D2=>v= .tuple #[.pointer (some ⟨M2.d,0,none⟩), .nilIface] ∧DkOk M2 D2∧D2=zeroD ((Rs.length:Int)+1) 4 4096 1024) ?_
 rintro v Lo fs ⟨M,rfl,hk,rfl,rfl⟩
 exact ⟨M,_,⟨V,hk,V⟩,V,V⟩
theorem Jbs (n:Int):Sp Tryz.prog 4 [.int .i64 n] [] [] (fun v Lo fs=> ∃(Rs:Rm) (A1:Option Addr) (c1:Nat),RmI 0 Rs [] ∧v= .slice A1 Rs.length c1∧Lo= [Yb Rs] ∧fs= [adsF A1 c1 Rs,RoomF Rs]):=by
 have hn0:=Int.emod_nonneg n (show (3:Int)≠0 by decide)
 have hn1:=Int.emod_lt_of_pos n (show (0:Int)<3 by decide)
 refine Sp.of (n:=32) ⟨_,Tryz.func4,rfl,rfl,rfl,rfl⟩ (Nat.le_of_ble_eq_true rfl) fun Ps As=>Jc (Ja (Lq (Jd rfl) (Je (Jf (Jc (Ja (Lq (Jd rfl) (Je (Jf (Jc (Jc (Ja (Lq (Jd rfl) (Je (Jf (JD (Kc (A:=RoomF []) (fun Z w _ A hA=>by cases hA) (Kz ?_))))))))))))))))))
 refine Kz ?_
 refine Ke (α:=Nat×Rm×Value×Part) (fun (i,Rs,v,p)=>(4-i))
  (fun (i,Rs,v,p)=> [(0, .int .i64 n),(3,v),(4, .int .i64 i)])
  (fun (i,Rs,v,p)=>(p::Yb Rs::Ps))
  (fun (i,Rs,v,p)=>(RoomF Rs::As))
  (fun (i,Rs,v,p)=>i=Rs.length∧(Rs.length:Int)≤2+n % 3∧RmO Rs∧Row 29 1 v Rs.length (ptRow Rs) p)
  (0,[], .slice none 0 0,[]) ?_ (.m3 rfl rfl rfl) (Sk2 (Sr)) (fun _ h=>h) ?_
 ·exact ⟨rfl,by show (0:Int)≤2+n % 3;omega,RmO.nil,Row.nil _ _⟩
 ·rintro ⟨i,Rs,v,p⟩ ⟨hil,hi0,hO,hrow⟩
  have hil:i=Rs.length:=hil
  have hi0:(Rs.length:Int)≤2+n % 3:=hi0
  have hO:RmO Rs:=hO
  have hrow:Row 29 1 v Rs.length (ptRow Rs) p:=hrow
  refine Jc (Jc (Ja (Lq (Jb V) (Lq (Jb V) (Jg V (Jm (brought_m n 3 (by decide)) (.n2 V V) (by decide) Jx fun _ _ _ q9=>?_))))))
  obtain ⟨rfl,rfl,rfl⟩:=q9
  refine Lq (JQ V V (wr64 (by omega)) (c:=2+n % 3)) (Lq (Km V V) (Je (Jf (Jz V (fun h11=> ?_) (fun h11=> ?_)))))
  ·refine Jo (Jf (Jc (JD (Jc (Ja (Lq (Jb V) (Lq (JQ V V (wr64 (by omega)) (c:=((i+1:Nat):Int))) (Jg V (Jm (Jcb) .nil (by decide) Jx fun _ _ _ q9=>?_)))))))))
   obtain ⟨rfl,rfl,rfl⟩:=q9
   have hlt4:Rs.length<4:=by have h:=h11;simp only [decide_eq_true_eq] at h;omega
   refine Jg V (JU (dnew_r Rs i hil hlt4) (.n2 V V) (by decide) .z1 (Jl Mm0 Jx) fun _ _ _ q9=>?_)
   obtain ⟨M2,D2,⟨rfl,hk2,hD2⟩,rfl,rfl⟩:=q9
   refine Lq (Jb V) (Lq (Ji (vs:= [_,_]) V V) (Lq (Ji (vs:= [_,_]) V V) (Lq (Jd V) (Lq (Jd V) (Je (Jf (Jc (Jc (Ja (Lq (Jb V) (Lq (KW Un49 V) (Lq (Jb V) (Lg V V V V (Jb V) ?_)))))))))))))
   refine Lg V V V V (KR Un29 V V (by simp)) (Lq (JL V V V) (Je (Jf (Ju V V (Jo (Jf (Ja (Lq (Jb V) (Lq (Jb V) (Jg V (KF (cs:= [_]) Un25 E3 (by decide) (by decide) V V V V (by decide) fun b29=>Jg V (KK (news:= [_]) Un25 E3 V (by decide) V V hrow Jn V V (by omega) (by unfold maxLen;omega) (by decide) (DelAt.perm .z2) fun v30 p30 hr30=> ?_))))))))))))
   obtain ⟨As30,cs30,es30⟩:=hr30.slice
   subst es30
   refine Lq (Jd V) (Je (J7 (Jf (Ja (Lq (Jb V) (Lq (JQ V V (wr64 (by omega)) (c:=((i+1:Nat):Int))) (Lq (Jd V) (Je (Ko ?_)))))))))
   refine ⟨(i+1,Rs++ [(M2,D2)],_,p30),?_,(.m3 V V V),(Sk (Sd (Sk (Sr)))),(Jl Mm0 Tt2)⟩
   subst hD2
   have hlt:(i:Int)<2+n % 3:=by have h:=h11;simp only [decide_eq_true_eq] at h;omega
   exact ⟨by show 4-(i+1)<4-i;omega,by show i+1=_;rw [List.length_append];simp;omega,by show ((Rs++ [_]).length:Int)≤_;rw [List.length_append];simp;omega,hO.add hk2,by show Row _ _ _ (Rs++ [_]).length _ _;rw [H6,List.length_append];exact hr30⟩
  ·refine Kh (JH (JH (J6 (Jf (Jc ?_)))))
   have hdn:(Rs.length:Int)=2+n % 3:=by have h:=h11;simp only [decide_eq_false_iff_not] at h;omega
   have hrm:=hO.rm (by omega)
   refine Kc (A:=RepsF ptD (Rs.map fun (r:DM×DS)=>r.1.d) ((Rs.map fun (r:DM×DS)=>r.1.d).map fun x=> [.pointer (some ⟨x,0,none⟩)])) (fun Z w _=>pt_reps Z w _) (KJ (e:=ptD) (xs:=(Rs.map fun (r:DM×DS)=>r.1.d)) (css:=((Rs.map fun (r:DM×DS)=>r.1.d).map fun x=> [.pointer (some ⟨x,0,none⟩)])) (by rw [ptRow_flat];exact hrow) .z (by simp) Mm0 fun A9 c9 e9=> ?_)
   cases e9
   refine Ja (Lq (Jb V) (Lq (Jd V) (Je (Jf (Jp ?_)))))
   refine ⟨_,[_],[_,_],fun Z w hs=> .tmp V .nil,?_,fun Z w hs=>hs.out (Sk (Sr)) (Jl Mm0 Tt2)⟩
   exact ⟨Rs,_,_,hrm,(by show Value.slice _ _ _=_;rw [List.length_map]),rfl,rfl⟩
structure BdN (k:Nat) (D:DS):Prop where
 n:D.H.ops.length+k≤700
 m:D.made+k≤700∧(D.made:Int)+k<D.op
 c:5*((D.H.ops.length:Int)+k)≤D.ce
theorem BdN.bd {q:Nat} {D:DS} (h:BdN (q+1) D):Bd D:=by
 have h1:=h.n
 have h2:=h.m
 have h3:=h.c
 exact ⟨by omega,by omega,by omega⟩
theorem Acted.bdn {D D2:DS} (h:Acted D D2) {q:Nat} (hb:BdN (q+1) D):BdN q D2:=by
 obtain ⟨_,⟨_,h2,h3⟩,_,h4⟩:=h
 have b1:=hb.n
 have b2:=hb.m
 have b3:=hb.c
 rcases h4 with ⟨e1,_,e2⟩ | ⟨o,_,_,e1,e2⟩
 ·exact ⟨by rw [e1];omega,by rw [e2,h3];omega,by rw [e1,h2];omega⟩
 ·have e3:D2.H.ops.length=D.H.ops.length+1:=by rw [e1];simp
  exact ⟨by omega,by rw [e2,h3];omega,by rw [e3,h2];omega⟩
structure InsV (D:DS) (p:Nat) (text:ByteArray) (D2:DS):Prop where
 dv:DV D2
 ac:Acted D D2
 vis:KQ D2.X=(KQ D.X).take p++(Kq text++(KQ D.X).drop p)
 crt:J8 (D2.X.take D2.gap)=p+(Kq text).length
structure DelV (D:DS) (p n:Nat) (D2:DS):Prop where
 dv:DV D2
 ac:Acted D D2
 vis:KQ D2.X=(KQ D.X).take p++(KQ D.X).drop (p+n)
 crt:J8 (D2.X.take D2.gap)=p
theorem ins_v (M:DM) (D:DS) (ok:DkOk M D) (hv:DV D) (q:Nat) (hb:BdN (q+1) D) (p:Nat) (hp:p≤J8 D.X) (text:ByteArray) (hts:text.size≤1048576) (hu:(utF text).2.2=0) (hu1:1≤(utF text).1∧(utF text).1≤5):Sp Tryz.prog 18 [.pointer (some ⟨M.d,0,none⟩), .int .i64 p, .string text] (KH M D) (barF::KY M D) (fun v Lo fs=> ∃(k:Nat) (M2:DM) (D2:DS),(D2=insD D k text∧Pth D.X p k∧D2.X=D.X.take k++(cellsOf (Kq text) 0++D.X.drop k))∧InsV D p text D2∧BdN q D2∧M2.d=M.d∧DkOk M2 D2∧v= .tuple #[opV (insO D k text) none 0, .nilIface] ∧Lo=KH M2 D2∧fs=KY M2 D2):=by
 have hbd:=hb.bd
 have hpu:=hv.put_ D.u
 have hbm:=hbd.m
 have hbn:=hbd.n
 have hbc:=hbd.c
 have hlm:=ok.lm
 have hru:=Y7 hu
 have hmk: ∀k,Pth D.X p k→MkD D (insO D k text):=fun k hk=>(hv.insM (by omega) (by omega) hk hu (by omega)).1
 refine (insert_0 M D ok p hp text hts hu (by omega) (by omega) (by omega) hmk hv.nU hv.nR).mono ?_
 rintro v Lo fs ⟨k,M2,hk,hd,hok,rfl,rfl,rfl⟩
 obtain ⟨h1,h2⟩:=hv.insD (hmk k hk) hu1
 obtain ⟨-,h3,h4⟩:=hv.insM (by omega) (by omega) hk hu (by omega)
 exact ⟨k,M2,insD D k text,⟨rfl,hk,ins_row hv.di (hv.ins (by omega) (by omega) hk.le hu (by omega))⟩,⟨h1,h2,h3,by rw [show (Kq text).length=(utF text).1.toNat by omega];exact h4⟩,h2.bdn hb,hd,hok,rfl,rfl,rfl⟩
theorem del_v (M:DM) (D:DS) (ok:DkOk M D) (hv:DV D) (q:Nat) (hb:BdN (q+1) D) (p n:Nat) (hn0:0<n) (hpn:p+n≤J8 D.X):Sp Tryz.prog 19 [.pointer (some ⟨M.d,0,none⟩), .int .i64 p, .int .i64 n] (KH M D) (barF::KY M D) (fun v Lo fs=> ∃(xs:List Rg) (M2:DM) (D2:DS) (A9:Option Addr) (c9:Nat),(VisR p n D.X xs∧D2.X=K5 xs 1 D.X∧D2.u=D.u)∧DelV D p n D2∧BdN q D2∧M2.d=M.d∧DkOk M2 D2∧v= .tuple #[opV (hideO D xs) A9 c9, .nilIface] ∧Lo=KH M2 D2∧fs=KY M2 D2++ [RdF rgD A9 c9 xs]):=by
 have hbd:=hb.bd
 have hbm:=hbd.m
 have hbn:=hbd.n
 have hlm:=ok.lm
 have hmk: ∀xs,VisR p n D.X xs→MkD D (hideO D xs)∧p≤J8 (JX (mkE D (hideO D xs)) D.X):=fun xs hx=>by
  obtain ⟨h1,h2⟩:=hv.hideM (by omega) (by omega) hn0 hpn hx
  refine ⟨h1,?_⟩
  rw [←KL,h2,List.length_append,List.length_take,KL];omega
 refine (delete_0 M D ok p n hn0 hpn (by omega) hmk hv.nU hv.nR).mono ?_
 rintro v Lo fs ⟨xs,k,M2,A9,c9,hV,hB,hd,hok,rfl,rfl,rfl⟩
 obtain ⟨h1,h2⟩:=hv.hideD k (hmk xs hV).1
 obtain ⟨-,h3⟩:=hv.hideM (by omega) (by omega) hn0 hpn hV
 exact ⟨xs,M2,hideD D xs k,A9,c9,⟨hV,hide_row hv.di (hv.hide (by omega) (by omega) hV.pls (hV.ne hn0 hpn)),V⟩,⟨h1,h2,h3,hB.ct⟩,h2.bdn hb,hd,hok,V,V,V⟩
theorem und_v (M:DM) (D:DS) (ok:DkOk M D) (hv:DV D) (q:Nat) (hb:BdN (q+1) D) (p k:Nat) (hk:Pth D.X p k) (text:ByteArray) (hu:(utF text).2.2=0) (hu1:1≤(utF text).1∧(utF text).1≤5) (M3:DM) (D3:DS) (hD3:D3=insD D k text) (ok3:DkOk M3 D3) (hb3:BdN 1 D3):Sp Tryz.prog 22 [.pointer (some ⟨M3.d,0,none⟩)] (KH M3 D3) (barF::KY M3 D3) (fun v Lo fs=> ∃(M2:DM) (D2:DS) (o:GOp),(KQ D2.X=KQ D.X∧J8 (D2.X.take D2.gap)=p)∧M2.d=M3.d∧DkOk M2 D2∧v= .tuple #[opV o none 0, .nilIface] ∧Lo=KH M2 D2∧fs=KY M2 D2):=by
 have hbd:=hb.bd
 have hbm:=hbd.m
 have hbn:=hbd.n
 have hb3m:=hb3.m
 obtain ⟨j,hU⟩:=ins_undo hv (by omega) (by omega) hk hu hu1
 rw [←hD3] at hU
 refine (Zo M3 D3 ok3 (by omega) D.u ((D.made:Int)+1) j hU.hx hU.tud).mono ?_
 rintro v Lo fs ⟨M2,hd,hok,rfl,rfl,rfl⟩
 exact ⟨M2,_,_,⟨hU.vis,hU.crt⟩,hd,hok,V,V,V⟩
theorem str_beq {s t:ByteArray} :(s==t)=true↔s=t:=by
 rw [beq_toListBytes,ByteArray.toList_eq,ByteArray.toList_eq]
 obtain ⟨⟨x⟩⟩:=s
 obtain ⟨⟨y⟩⟩:=t
 simp
section
variable {P:Program} {n:Dm} {R:Post} {K:Nx} {l:Fr} {Ps Ps':List Part} {As:List Fact} {d:Nat} {ty:TypeId} {pos:String} {aft:Array Edge} {g:Option (Nat×Bool)}
end
theorem dnew_v:Sp Tryz.prog 16 [.int .i64 1, .agg #[.int .i64 2, .int .i64 100, .int .i64 100]] [] [] (fun v Lo fs=> ∃(M:DM) (D:DS),(D.X= [] ∧D.u=1∧DV D∧BdN 4 D)∧v= .tuple #[.pointer (some ⟨M.d,0,none⟩), .nilIface] ∧DkOk M D∧Lo=KH M D∧fs=KY M D):=by
 refine (ZP 1 2 100 100 (by decide) (by decide) (by decide) (by decide)).mono ?_
 rintro v Lo fs ⟨M,rfl,hok,rfl,rfl⟩
 exact ⟨M,zeroD 1 2 100 100,⟨rfl,rfl,DV.zero (by decide) _ _ _,⟨by show 0+4≤700;omega,⟨by show 0+4≤700;omega,by show ((0:Nat):Int)+(4:Nat)<100;omega⟩,by show 5*(((0:Nat):Int)+(4:Nat))≤100;omega⟩⟩,rfl,hok,rfl,rfl⟩
theorem aw1 {D:DS} (hX:D.X= []) {k:Nat} (hk:Pth D.X 0 k) {X1:List Ce} (h:X1=D.X.take k++(cellsOf (Kq abcB) 0++D.X.drop k)):X1=awX1:=by
 rw [hX] at h hk
 rw [h,aw_k0 hk,rn_abc];rfl
theorem aw3 {X:List Ce} (hX:X=awX2) {k:Nat} (hk:Pth X 1 k) {X3:List Ce} (h:X3=X.take k++(cellsOf (Kq xB) 0++X.drop k)):k=2∧X3=awX2.take 2++(cellsOf [88] 0++awX2.drop 2):=by
 subst hX
 obtain rfl:=aw_k2 hk
 exact ⟨V,by rw [h,rn_x]⟩
theorem bd38_0_1_2Xg28 (x0_:Int) (x1_:Int) (x2_:Int) (w:World):(Instr.build 36 #[(0, .int .i64 x0_),(1, .int .i64 x1_),(2, .int .i64 x2_)]).run Tryz.prog w= .ok (.agg #[.int .i64 x0_, .int .i64 x1_, .int .i64 x2_]) w:=by kernel_rfl
theorem Ja7:Sp Tryz.prog 5 [] [] [barF] (Is (.bool true)):=by
 refine Sp.of (n:=85) ⟨_,Tryz.func5,V,V,V,V⟩ (Nat.le_of_ble_eq_true V) fun Ps As=>Jc (Ja (Lq (Jd V) (Je (Jf (Jc (Ja (Lq (JY (.n3 V V V) (bd38_0_1_2Xg28 _ _ _)) (Jg V (Jm (dnew_v) (.n2 V V) (by decide) Jx fun _ _ _ q9=>?_)))))))))
 obtain ⟨M0,D0,⟨hX0,hu0,hv0,hb0⟩,rfl,hok0,rfl,rfl⟩:=q9
 refine Lq (Jb V) (Lq (Ji (vs:= [_,_]) V V) (Lq (Ji (vs:= [_,_]) V V) (Lq (Jd V) (Lq (Jd V) (Je (Jf (Jc (Jc (Ja (Lq (Jb V) (Lq (KW Un49 V) (Lq (Jb V) (Lg V V V V (Jb V) ?_)))))))))))))
 refine Lg V V V V (KR Un29 V V (by simp)) (Lq (JL V V V) (Je (Jf (Ju V V (Jo (Jf (Jc (Ja (Lq (Jb V) (Jg V (J9 (ins_v M0 D0 hok0 hv0 3 hb0 0 (Nat.zero_le _) abcB (by decide) (by rw [ut_abc]) (by rw [ut_abc];decide)) (.n3 V V V) (by decide) (.n8 .z .z .z .z .z .z .z .z) (Jl Mm3 (Jl Mm0 (Jl Mm1 (Jl Mm2 Jx)))) fun _ _ _ q9=>?_)))))))))))
 obtain ⟨k1,M1,D1,hE1,hI1,hb1,hd1,hok1,rfl,rfl,rfl⟩:=q9
 refine Lq (Jb V) (Lq (Ji (vs:= [_,_]) V V) (Lq (Ji (vs:= [_,_]) V V) (Jg V (Jw (cs:= [_,_,_,_,_,_,_,_,_]) JA V (by decide) fun b3=>Jg V (Jq (cs':= [_,_,_,_,_,_,_,_,_]) (vs:= [_,_,_,_,_,_,_,_,_]) JA V V V V V (Nat.le_of_ble_eq_true V) .z (Lq (Jd V) (Je (Jf (Jc (Ja (Lq (Jb V) ?_)))))))))))
 have hX1:=aw1 hX0 hE1.2.1 hE1.2.2
 rw [←hd1]
 refine Jg V (J9 (del_v M1 D1 hok1 hI1.dv 2 hb1 1 1 (by decide) (by rw [hX1];decide)) (.n3 V V V) (by decide) (.n8 .z1 .z1 .z1 .z1 .z1 .z1 .z1 .z1) (Jl Mm6 (Jl Mm0 (Jl Mm1 (Jl Mm2 Jx)))) fun _ _ _ q9=>?_)
 obtain ⟨xs2,M2,D2,A2,c2,hE2,hI2,hb2,hd2,hok2,rfl,rfl,rfl⟩:=q9
 refine Lq (Jb V) (Lq (Ji (vs:= [_,_]) V V) (Lq (Ji (vs:= [_,_]) V V) (Jg V (Jw (cs:= [_,_,_,_,_,_,_,_,_]) JA V (by decide) fun b5=>Jg V (Jq (cs':= [_,_,_,_,_,_,_,_,_]) (vs:= [_,_,_,_,_,_,_,_,_]) JA V V V V V (Nat.le_of_ble_eq_true V) .z (Lq (Jd V) (Je (Jf (Jc (Ja (Lq (Jb V) ?_)))))))))))
 have hX2:D2.X=awX2:=by rw [hE2.2.1,hX1];exact aw_x2 (hX1 ▸ hE2.1)
 rw [←hd2]
 refine Jg V (J9 (ins_v M2 D2 hok2 hI2.dv 1 hb2 1 (by rw [hX2];decide) xB (by decide) (by rw [ut_x]) (by rw [ut_x];decide)) (.n3 V V V) (by decide) (.n8 .z1 .z1 .z1 .z1 .z1 .z1 .z1 .z1) (Jl Mm10 (Jl Mm0 (Jl Mm1 (Jl Mm2 Jx)))) fun _ _ _ q9=>?_)
 obtain ⟨k3,M3,D3,hE3,hI3,hb3,hd3,hok3,rfl,rfl,rfl⟩:=q9
 refine Lq (Jb V) (Lq (Ji (vs:= [_,_]) V V) (Lq (Ji (vs:= [_,_]) V V) (Jg V (Jw (cs:= [_,_,_,_,_,_,_,_,_]) JA V (by decide) fun b7=>Jg V (Jq (cs':= [_,_,_,_,_,_,_,_,_]) (vs:= [_,_,_,_,_,_,_,_,_]) JA V V V V V (Nat.le_of_ble_eq_true V) .z (Lq (Jd V) (Je (Jf (Jc (Jc ?_))))))))))
 have hvl:=KA M3.t.row
 have hwt:=hok3.wt
 have htl:=hok3.tl
 have hrow:=hok3.row
 have hpl:=hok3.pl
 obtain ⟨hk3,hX3⟩:=aw3 hX2 hE3.2.1 hE3.2.2
 rw [←hd3]
 refine Ja (Lq (Jb V) (Lq (KW Un49 V) (Lq (Jb V) (Lg V V V V (Jb V) (Lg V V V V (KW Un49 V) (Lq (JL V V V) (Lq (Jb V) (Lg V V V V (Jb V) (Lg V V V V (KW Un49 V) ?_)))))))))
 refine Lq (JL V V V) (Lq (Jb V) (Lg V V V V (Jb V) (Lg V V V V (JE V) (Lg V V V V (Jh (o':=0) Un40 V YF V V) (KD V V V V (KE (Vx M3.d M3.h M3.b _ _ M3.B M3.t hwt (by omega)) (.n1 V) (by decide) .z1 .z4 (Jl Mm2 Jx) fun _ _ _ q9=>?_))))))
 obtain ⟨rfl,rfl,rfl⟩:=q9
 rw [hrow,hX3,aw_t3]
 refine Lg V V V V (E8 V V) (Lq (JL V V V) (Lq (Jb V) (Lg V V V (by rw [str_beq.2 V];rfl) (Jb V) (KD V V V (by rw [str_beq.2 V];rfl) (J9 (Jby M3 D3 hok3) (.n1 V) (by decide) (.n8 .z .z2 .z2 .z2 .z .z1 .z1 .z1) Jx fun _ _ _ q9=>?_)))))
 obtain ⟨rfl,rfl,rfl⟩:=q9
 rw [show D3.gap=3 by rw [hE3.1];show k3+(utF xB).1.toNat=3;rw [ut_x,hk3];rfl]
 refine Lg V V V (by rw [str_beq.2 V];rfl) (Kr V V) (Lq (JL V (by rw [str_beq.2 V];rfl) V) (Lq (Jb V) (Lg V V V (by decide) (Jb V) (Lg V V V (by decide) (JE V) (Lg V V V (by decide) (Jh (o':=0) Un40 V YF V V) (KD V V V (by decide) (KE (H4 M3.d M3.b _ _ M3.h M3.B M3.t hwt) (.n1 V) (by decide) .z .z3 (Jl Mm2 Jx) fun _ _ _ q9=>?_)))))))
 obtain ⟨rfl,rfl,rfl⟩:=q9
 rw [show M3.t.row.length=4 by rw [hrow,hX3];rfl]
 refine Lg V V V (by decide) (Kr V V) (Lq (JL V (by decide) V) (Je (Jf (Ju V V (Jo (Jf (Jc (Ja (Lq (Jb V) (Jg V (J9 (und_v M2 D2 hok2 hI2.dv 1 hb2 1 k3 hE3.2.1 xB (by rw [ut_x]) (by rw [ut_x];decide) M3 D3 hE3.1 hok3 hb3) (.n1 V) (by decide) (.n8 .z .z1 .z1 .z1 .z .z .z .z) (Jl Mm13 (Jl Mm0 (Jl Mm1 (Jl Mm2 Jx)))) fun _ _ _ q9=>?_)))))))))))
 obtain ⟨M4,D4,o4,hU4,hd4,hok4,rfl,rfl,rfl⟩:=q9
 refine Lq (Jb V) (Lq (Ji (vs:= [_,_]) V V) (Lq (Ji (vs:= [_,_]) V V) (Jg V (Jw (cs:= [_,_,_,_,_,_,_,_,_]) JA V (by decide) fun b9=>Jg V (Jq (cs':= [_,_,_,_,_,_,_,_,_]) (vs:= [_,_,_,_,_,_,_,_,_]) JA V V V V V (Nat.le_of_ble_eq_true V) .z (Lq (Jd V) (Je (Jf (Jc (Ja (Lq (Jb V) (Lq (VA Un49 V) (Lq (Jb V) ?_)))))))))))))
 refine Lg V V V V (Jb V) (Lg V V V V (JE V) (Lg V V V V (Jh (o':=0) Un40 V YF V V) ?_))
 rw [←hd4]
 refine KD V V V V (KE (Vx M4.d M4.h M4.b _ _ M4.B M4.t hok4.wt (by have:=hok4.tl;omega)) (.n1 V) (by decide) .z1 .z4 (Jl Mm2 Jx) fun _ _ _ q9=>?_)
 obtain ⟨rfl,rfl,rfl⟩:=q9
 rw [hok4.row,text_vis (hU4.1.trans (congrArg KQ hX2)),aw_t4]
 refine Lg V V V V (Gm V V) (Lq (JO V V V) (Lq (Jb V) (Lg V V V (str_beq.2 V) (Jb V) (KD V V V (str_beq.2 V) (J9 (ZS M4 D4 hok4) (.n1 V) (by decide) (.n8 .z .z2 .z2 .z2 .z .z1 .z1 .z1) (Jl Mm16 (Jl Mm0 (Jl Mm1 (Jl Mm2 Jx)))) fun _ _ _ q9=>?_)))))
 obtain ⟨rfl,rfl,rfl⟩:=q9
 rw [hU4.2]
 refine Lg V V V (str_beq.2 V) (Kb V V) (Lq (JO V (str_beq.2 V) V) (Lq (Jd V) (Je (Jf (Jp ?_)))))
 refine ⟨_,[],[],fun Z w hs=> .tmp V .nil,?_,fun Z w hs=>hs.out (Sd12 (Sr)) Tt16⟩
 exact ⟨V,V,V⟩
section
variable {P:Program} {n:Dm} {R:Post} {l:Fr} {Ps:List Part} {As:List Fact} {dd:Option Tmp} {ty:TypeId} {pos:String} {aft:Array Edge} {g:Option (Nat×Bool)}
theorem Jat {t t2 E:TypeId} {x:Operand} {a:Addr} {m c:Nat} (hu:P.underlying t=some (.slice E)) (hx:evs l x=some (.slice (some a) m c)):QR P l Ps As ⟨dd, .binOp .eql t x (.const (.slice none 0 0)) t2,ty,pos,aft,g⟩ (.bool false):=fun Z w ρ hs hρ=>by
 have hy:ρ (.const (.slice none 0 0))= .slice none 0 0:=hρ _ _ rfl
 have h0:binOp .eql t (.slice (some a) m c) (.slice none 0 0)=(do pure (.bool (←Op.equalIn (9999+1) t (.slice (some a) m c) (.slice none 0 0)))):=rfl
 have h1:eqGuard .eql t x (.const (.slice none 0 0)) (.slice (some a) m c) (.slice none 0 0)=pure ():=by unfold eqGuard;rfl
 have h2:(Op.equalIn (9999+1) t (.slice (some a) m c) (.slice none 0 0)).run P w= .ok false w:=by
  unfold Op.equalIn
  simp only [Sem.run_bind,run_underlying hu,Result.andThen_ok]
  rfl
 simp only [execOp,hρ _ _ hx,hy,h1,h0,Sem.run_bind,h2,Result.andThen_ok,Sem.run_pure]
theorem Zf {c:Code} {M:DM} {D:DS} {Rs:Rm} (hF:RoomF ((M,D)::Rs)∈As) (h:WC P n c R l (dkB M D::hdP M.h M.A D.H.ops.length M.cap M.m D.H.total::mpP M.m M.L::mkP M.L::rpP M.b M.B::stP M.s M.vu M.vr::M.pu::M.pr::Ps) (RdF opD M.A M.cap D.H.ops::AllF M.L nowF::TrF M.B M.t::As)):WC P n c R l (Yb ((M,D)::Rs)::Ps) As:=
 WC_openRm 0 (by simp) hF h
end
theorem RmI.hd {k:Nat} {Rs:Rm} {G:List GOp} (h:RmI k Rs G): ∃M D T,Rs=(M,D)::T:=by
 match Rs,h.len with
 | [],h=>simp at h
 | (M,D)::T,_=>exact ⟨M,D,T,rfl⟩
theorem RmI.bdn {k:Nat} {Rs:Rm} {G:List GOp} (h:RmI k Rs G) (hk:k≤600) {r:DM×DS} (hr:r∈Rs) (q:Nat) (hq:q≤50):BdN q r.2:=by
 have h1:=(h.n r hr).1
 have h2:=h.md r hr
 have h3:=h.lm r hr
 exact ⟨by omega,by omega,by omega⟩
structure OrdOk (L:List GOp):Prop where
 ctx:CtxOk 0 L
 ids:(L.map fun o=>(o.c,o.n)).Nodup
 idr: ∀o∈L,rightF o.c o.n=true
 tgt:TgtOk [] L
 le:sumO L≤60000
theorem Made.ord {n:Nat} {H:Hist} {X:List Ce} (h:Made n H X) (hn:n≤1000):OrdOk H.ops:=by
 obtain ⟨v,r,l⟩:=h.inv hn
 refine ⟨v.ctx,?_,?_,(h.ci hn).tgt,by rw [←v.tot];exact v.le⟩
 ·have:=v.ids
  unfold Hist.ops
  rw [List.map_map];exact this
 ·intro o ho
  obtain ⟨e,he,rfl⟩:=List.mem_map.1 ho
  exact v.idr e he
theorem OrdOk.next {L:List GOp} (h:OrdOk L) {k:Nat} {H1:Hist} {X1:List Ce} (h1:Made k H1 X1) (hk1:k≤1000) (e:H1.ops=L.take k) {o:GOp} (ho:L[k]? =some o):Good H1 k o:=by
 have hk:k<L.length:=by
  rcases Nat.lt_or_ge k L.length with h | h
  ·exact h
  ·rw [List.getElem?_eq_none h] at ho;cases ho
 rw [List.getElem?_eq_getElem hk] at ho
 obtain rfl:=Option.some.inj ho
 obtain ⟨v1,r1,l1⟩:=h1.inv hk1
 have hsp:L=L.take k++(L[k] ::L.drop (k+1)):=by rw [←List.drop_eq_getElem_cons hk,List.take_append_drop]
 have hb:K6 H1 k=sumO (L.take k):=by
  rw [before_ops,e,List.take_of_length_le]
  rw [List.length_take];omega
 have hc:=h.ctx
 have ht:=h.le
 rw [hsp,Ya] at ht
 rw [hsp,CtxOk.append,Int.zero_add] at hc
 simp only [sumO] at ht
 have h0:=sumO_nonneg hc.2.2
 have hT:=h.tgt
 rw [hsp,TgtOk.append,List.nil_append] at hT
 have hid: ∀p∈L.take k,¬(p.c=L[k].c∧p.n=L[k].n):=by
  intro p hp hh
  obtain ⟨j,hj,rfl⟩:=List.mem_iff_getElem.1 hp
  rw [List.length_take] at hj
  rw [List.getElem_take] at hh
  have:=List.getElem_inj (h₀:=by rw [List.length_map];omega) (h₁:=by rw [List.length_map];exact hk) h.ids (i:=j) (j:=k)
  simp only [List.getElem_map,Prod.mk.injEq] at this
  have:=this.1 hh
  omega
 refine ⟨by omega,by rw [hb];exact hc.2.1,?_,h.idr _ (List.getElem_mem hk),?_,?_⟩
 ·cases hw:J5 H1.ents L[k].c L[k].n with
  | none=>rfl
  | some j=>
   obtain ⟨hj,g1,g2⟩:=KI hw
   refine absurd ⟨g1,g2⟩ (hid H1.ents[j].op ?_)
   rw [←e];exact List.mem_map.2 ⟨_,List.getElem_mem hj,rfl⟩
 ·intro h4
  obtain ⟨p,p1,p2,p3,p4⟩:=hT.2.1 h4
  rw [←e] at p1
  obtain ⟨x,hx,rfl⟩:=List.mem_map.1 p1
  obtain ⟨j,hj,rfl⟩:=List.mem_iff_getElem.1 hx
  refine ⟨j,?_,by omega,H1.ents[j],List.getElem?_eq_getElem hj,p4⟩
  rw [←p2,←p3];exact Yg v1.ids hj
 ·have ht1:H1.total=sumO (L.take k):=by rw [v1.tot,e]
  rw [ht1];omega
def stOf (d o:GOp):Prop:=o.kind=4∧o.tc=d.c∧o.tn=d.n
instance (d o:GOp):Decidable (stOf d o):=by unfold stOf;infer_instance
def Gap (D N N':List Nm):Prop:= ∃P Q,N=P++(D++Q)∧N'=P++Q
inductive Er (d:GOp):List Nm→List Nm→List GOp→List GOp→Prop
 | nil {N N':List Nm} :Er d N N' [] []
 | skip {N N':List Nm} {o:GOp} {l l':List GOp} (h:stOf d o) (hr:Er d N N' l l'):Er d N N' (o::l) l'
 | keep {N N':List Nm} {o o':GOp} {l l':List GOp} (h: ¬stOf d o) (hs:Same o o') (hn:namesOf o' N'=namesOf o N) (hw:Right N'.length o') (hg:Gap (blk d) (insRow o N) (insRow o' N')) (hr:Er d (insRow o N) (insRow o' N') l l'):Er d N N' (o::l) (o'::l')
abbrev Sg:=Int×Bool×List (Option Nm)
def sgL (all:List GOp):List Nm→List GOp→List Sg
 | _,[] => []
 | N,o::l=>(o.kind,lastOff o.c o.n false all,namesOf o N)::sgL all (insRow o N) l
theorem V4 (all:List GOp): ∀(N:List Nm) (a b:List GOp),sgL all N (a++b)=sgL all N a++sgL all (rowN N a) b
 | N,[],b=>rfl
 | N,o::a,b=>by simp only [List.cons_append,sgL,rowN];rw [V4 all _ a b]
def hidS (s:Sg):Bool:=(decide (s.1=1) && s.2.1) || (decide (s.1=2) && !s.2.1)
def cntS (S:List Sg) (x:Nm):Nat:=S.countP fun s=>hidS s && decide (some x∈s.2.2)
theorem ents_sg {ops:List GOp} {N0:List Nm} : ∀ {es:List Ent} {N:List Nm},es.map (nmE N0)=allN N (es.map (·.op))→(∀e∈es,e.off=lastOff e.op.c e.op.n false ops)→es.map (fun e=>((e.op.kind,e.off,nmE N0 e):Sg))=sgL ops N (es.map (·.op))
 | [],_,_,_=>rfl
 | e::es,N,h,ho=>by
  simp only [List.map_cons,allN,List.cons.injEq] at h
  simp only [List.map_cons,sgL,List.cons.injEq]
  refine ⟨?_,ents_sg h.2 fun x hx=>ho x (List.mem_cons_of_mem _ hx)⟩
  rw [←ho e List.mem_cons_self,h.1]
theorem mem_nm {T:Int} {N:List Nm} (hN:N.Nodup) (hl:(N.length:Int)=T) {xs:List Rg} (hp:Pls T xs) {q:Nat} {x:Nm} (hx:N[q]? =some x):some x∈(Ki xs).map (fun q=>N[q.toNat]?)↔inRb q xs=true:=by
 rw [K8,←mem_places,List.mem_map]
 have hq:q<N.length:=by
  rcases Nat.lt_or_ge q N.length with h | h
  ·exact h
  ·rw [List.getElem?_eq_none h] at hx;cases hx
 constructor
 ·rintro ⟨p,hp1,hp2⟩
  have h1:=hp.in (mem_places.1 hp1)
  rw [List.getElem?_eq_getElem (by omega)] at hp2
  rw [List.getElem?_eq_getElem hq] at hx
  have h2:N[p.toNat] =N[q] :=(Option.some.inj hp2).trans (Option.some.inj hx).symm
  have:=(List.getElem_inj (h₀:=by omega) (h₁:=hq) hN).1 h2
  rw [show (q:Int)=p from by omega];exact hp1
 ·intro h
  exact ⟨q,h,by rw [Int.toNat_natCast];exact hx⟩
theorem Made.cnt {n:Nat} {H:Hist} {X:List Ce} (h:Made n H X) (hn:n≤1000) {q:Nat} {x:Nm} (hx:(rowN [] H.ops)[q]? =some x):cnt H.ents q=cntS (sgL H.ops [] H.ops) x:=by
 obtain ⟨v,r,l⟩:=h.inv hn
 have I:=h.ci hn
 have hN:(rowN [] H.ops).Nodup:=rowN_nodup List.nodup_nil (h.ord hn).ids (fun x hx=>by cases hx)
 have hl:((rowN [] H.ops).length:Int)=H.total:=by rw [Yq (w:=0) rfl v.ctx,v.tot];omega
 have e:=ents_sg (es:=H.ents) (N:= []) (ops:=H.ops) (N0:=rowN [] H.ops) I.now I.off
 have e2:H.ents.map (·.op)=H.ops:=rfl
 rw [e2] at e
 rw [←e]
 unfold Proofs.YtggbpikbmnkiaaaGreatDoor.cnt cntS
 rw [List.countP_map]
 refine List.countP_congr fun e he=> ?_
 simp only [Function.comp,Bool.and_eq_true,decide_eq_true_eq]
 have hm:=mem_nm hN hl (v.pls e he) hx
 show (hidE e=true∧inRb q e.now=true)↔(hidS (e.op.kind,e.off,nmE (rowN [] H.ops) e)=true∧some x∈nmE (rowN [] H.ops) e)
 unfold nmE
 rw [hm];rfl
theorem Made.rune {n:Nat} {H:Hist} {X:List Ce} (h:Made n H X) (hn:n≤1000) {q:Nat} {x:Nm} (hx:(rowN [] H.ops)[q]? =some x): ∃o∈H.ops,o.kind=1∧o.c=x.1∧o.n=x.2.1∧(X[q]?).map (·.1)=(Kq o.text)[x.2.2]? :=by
 obtain ⟨v,r,l⟩:=h.inv hn
 have I:=h.ci hn
 have M:=h.mk hn
 have hl:((rowN [] H.ops).length:Int)=H.total:=by rw [Yq (w:=0) rfl v.ctx,v.tot];omega
 have hq:q<(rowN [] H.ops).length:=by
  rcases Nat.lt_or_ge q (rowN [] H.ops).length with h | h
  ·exact h
  ·rw [List.getElem?_eq_none h] at hx;cases hx
 have h1:=M.one q (by omega) (by omega)
 obtain ⟨s,hs,hm⟩:=List.countP_pos_iff.1 (show 0<(sigs H.ents).countP (mkOf q) by omega)
 obtain ⟨e,he,rfl⟩:=List.mem_map.1 hs
 unfold mkOf at hm
 simp only [Bool.and_eq_true,decide_eq_true_eq] at hm
 have hk:e.op.kind=1:=hm.1
 have hp:=mem_places.2 (K8.1 hm.2)
 obtain ⟨k,hk1,hk2⟩:=List.mem_iff_getElem.1 hp
 have ht:=M.text _ hs hm.1
 obtain ⟨j,hj,hje⟩:=List.mem_iff_getElem.1 he
 have hnow:nmE (rowN [] H.ops) e=(blk e.op).map some:=by
  have h2: ∀(es:List Ent) (N:List Nm),es.map (nmE (rowN [] H.ops))=allN N (es.map (·.op))→ ∀e∈es,e.op.kind=1→nmE (rowN [] H.ops) e=(blk e.op).map some:=by
   intro es
   induction es with
   | nil=>intro N _ e he;cases he
   | cons a es ih=>
    intro N hh e he hk
    simp only [List.map_cons,allN,List.cons.injEq] at hh
    rcases List.mem_cons.1 he with rfl | he
    ·rw [hh.1];unfold namesOf;rw [if_pos hk]
    ·exact ih _ hh.2 e he hk
  exact h2 H.ents [] I.now e he hk
 unfold nmE at hnow
 have e1:=congrArg (·[k]?) hnow
 have e2:=congrArg (·[k]?) ht
 simp only [List.getElem?_map] at e1 e2
 have hk3:(Ki (sigE e).2.2)[k]? =some ((q:Nat):Int):=by rw [List.getElem?_eq_getElem hk1,hk2]
 have hk4:(Ki e.now)[k]? =some ((q:Nat):Int):=hk3
 rw [hk4] at e1
 rw [hk3] at e2
 simp only [Option.map_some,Int.toNat_natCast] at e1 e2
 rw [hx] at e1
 have hblk:(blk e.op)[k]? =some x:=by
  cases hb:(blk e.op)[k]? with
  | none=>rw [hb] at e1;cases e1
  | some y=>rw [hb] at e1;simp only [Option.map_some,Option.some.injEq] at e1;rw [e1]
 have hbx:=Gb (List.mem_of_getElem? hblk)
 have hbk:x.2.2=k:=by
  unfold blk at hblk
  rw [List.getElem?_map] at hblk
  cases hr:(List.range (Jr e.op).toNat)[k]? with
  | none=>rw [hr] at hblk;cases hblk
  | some z=>
   rw [hr] at hblk
   simp only [Option.map_some,Option.some.injEq] at hblk
   have hz:z=k:=by
    have hlt:k<(Jr e.op).toNat:=by
     rcases Nat.lt_or_ge k (Jr e.op).toNat with h | h
     ·exact h
     ·rw [List.getElem?_eq_none (by rw [List.length_range];exact h)] at hr;cases hr
    rw [List.getElem?_range hlt] at hr;exact (Option.some.inj hr).symm
   rw [←hblk];exact hz
 refine ⟨e.op,List.mem_map.2 ⟨e,he,V⟩,hk,hbx.1.symm,hbx.2.symm,?_⟩
 rw [hbk]
 cases hr:(Kq (sigE e).2.1)[k]? with
 | none=>rw [hr] at e2;cases e2
 | some c=>
  rw [hr] at e2
  simp only [Option.map_some,Option.some.injEq] at e2
  show (X[q]?).map (·.1)=(Kq e.op.text)[k]?
  rw [show (Kq e.op.text)[k]? =some c from hr];exact e2
theorem stOf_row {d o:GOp} (h:stOf d o) (N:List Nm):insRow o N=N:=KS (by unfold Jr;rw [if_neg (by have:=h.1;omega)]) N
theorem Gap.first (d:GOp) (N:List Nm):Gap (blk d) (insRow d N) N:=⟨N.take d.at_.toNat,N.drop d.at_.toNat,rfl,(List.take_append_drop _ _).symm⟩
theorem Er.gap {d:GOp} {N N':List Nm} {l l':List GOp} (h:Er d N N' l l'):Gap (blk d) N N'→Gap (blk d) (rowN N l) (rowN N' l'):=by
 induction h with
 | nil=>exact id
 | skip h _ ih=>intro hg;simp only [rowN];rw [stOf_row h];exact ih hg
 | keep _ _ _ _ hg _ ih=>intro _;simp only [rowN];exact ih hg
theorem Er.off {d:GOp} {N N':List Nm} {l l':List GOp} (h:Er d N N' l l') {c n:Int} (hc: ¬(c=d.c∧n=d.n)): ∀b,lastOff c n b l'=lastOff c n b l:=by
 induction h with
 | nil=>intro b;rfl
 | skip h _ ih=>
  intro b
  simp only [lastOff]
  rw [if_neg (fun hh=>hc ⟨hh.2.1.symm.trans h.2.1,hh.2.2.symm.trans h.2.2⟩)]
  exact ih b
 | keep _ hs _ _ _ _ ih=>
  intro b
  simp only [lastOff]
  rw [hs.kind,hs.tc,hs.tn,hs.on];exact ih _
theorem Er.mem {d:GOp} {N N':List Nm} {l l':List GOp} (h:Er d N N' l l'): ∀o'∈l',∃o∈l,Same o o':=by
 induction h with
 | nil=>intro o' ho;cases ho
 | skip _ _ ih=>intro o' ho;obtain ⟨o,h1,h2⟩:=ih o' ho;exact ⟨o,List.mem_cons_of_mem _ h1,h2⟩
 | keep _ hs _ _ _ _ ih=>
  intro o' ho
  rcases List.mem_cons.1 ho with rfl | ho
  ·exact ⟨_,List.mem_cons_self,hs⟩
  ·obtain ⟨o,h1,h2⟩:=ih o' ho;exact ⟨o,List.mem_cons_of_mem _ h1,h2⟩
theorem XQ (a b:List Sg) (x:Nm):cntS (a++b) x=cntS a x+cntS b x:=by unfold cntS;rw [List.countP_append]
theorem VT (s:Sg) (b:List Sg) (x:Nm):cntS (s::b) x=cntS b x+(if (hidS s && decide (some x∈s.2.2))=true then 1 else 0):=by unfold cntS;rw [List.countP_cons]
theorem hidS_st {o:GOp} (h:o.kind=4) (b:Bool) (ns:List (Option Nm)):hidS (o.kind,b,ns)=false:=by unfold hidS;simp [h]
theorem sg_same {all all':List GOp} : ∀ {l:List GOp} {N:List Nm},(∀o∈l,lastOff o.c o.n false all'=lastOff o.c o.n false all)→sgL all' N l=sgL all N l
 | [],_,_=>rfl
 | o::l,N,h=>by
  simp only [sgL]
  rw [h o List.mem_cons_self,sg_same fun p hp=>h p (List.mem_cons_of_mem _ hp)]
theorem Er.sg {d:GOp} {all all':List GOp} {N N':List Nm} {l l':List GOp} (h:Er d N N' l l') (x:Nm) (ha: ∀c n,¬(c=d.c∧n=d.n)→lastOff c n false all'=lastOff c n false all):(∀o∈l,¬(o.c=d.c∧o.n=d.n))→cntS (sgL all' N' l') x=cntS (sgL all N l) x:=by
 induction h with
 | nil=>intro _;rfl
 | skip h _ ih=>
  intro hl
  simp only [sgL]
  rw [VT,hidS_st h.1,stOf_row h]
  simp only [Bool.false_and,Bool.false_eq_true,if_false,Nat.add_zero]
  exact ih fun o ho=>hl o (List.mem_cons_of_mem _ ho)
 | keep h hs hn hw hg _ ih=>
  intro hl
  simp only [sgL]
  rw [VT,VT,ih fun o ho=>hl o (List.mem_cons_of_mem _ ho),hs.kind,hs.c,hs.n,hn,ha _ _ (hl _ List.mem_cons_self)]
theorem EH: ∀ {N:List Nm} {l:List GOp} {x:Nm},x∈rowN N l→x∈N∨ ∃o∈l,x∈blk o
 | N,[],x,h=> .inl h
 | N,o::l,x,h=>by
  rcases EH (l:=l) h with h | ⟨p,h1,h2⟩
  ·rcases List.mem_append.1 ((insRow_perm o N).mem_iff.1 h) with h | h
   ·exact .inr ⟨o,List.mem_cons_self,h⟩
   ·exact .inl h
  ·exact .inr ⟨p,List.mem_cons_of_mem _ h1,h2⟩
theorem ids_inj {L:List GOp} (h:(L.map fun o=>(o.c,o.n)).Nodup) {a b:GOp} (ha:a∈L) (hb:b∈L) (h1:a.c=b.c) (h2:a.n=b.n):a=b:=by
 obtain ⟨i,hi,rfl⟩:=List.mem_iff_getElem.1 ha
 obtain ⟨j,hj,rfl⟩:=List.mem_iff_getElem.1 hb
 have:=List.getElem_inj (h₀:=by simpa using hi) (h₁:=by simpa using hj) h
 simp only [List.getElem_map,Prod.mk.injEq] at this
 have:=this.1 ⟨h1,h2⟩
 subst this;rfl
theorem erase_text {n m:Nat} {H Hu:Hist} {X Xu:List Ce} (h:Made n H X) (hn:n≤1000) (hu:Made m Hu Xu) (hm:m≤1000) {A B B':List GOp} {d:GOp} (e:H.ops=A++(d::B)) (eu:Hu.ops=A++B') (hE:Er d (insRow d (rowN [] A)) (rowN [] A) B B') (hd:d.kind≠4) (hoff:lastOff d.c d.n false H.ops=true):KQ Xu=KQ X:=by
 have O:=h.ord hn
 have Ou:=hu.ord hm
 obtain ⟨v,r,_⟩:=h.inv hn
 obtain ⟨vu,ru,_⟩:=hu.inv hm
 have hN:(rowN [] H.ops).Nodup:=rowN_nodup List.nodup_nil O.ids (fun x hx=>by cases hx)
 have hlN:(rowN [] H.ops).length=X.length:=by
  have h1:=Yq (N:= []) (w:=0) rfl v.ctx
  have h2:=r.len
  rw [v.tot] at h2;omega
 have hlU:(rowN [] Hu.ops).length=Xu.length:=by
  have h1:=Yq (N:= []) (w:=0) rfl vu.ctx
  have h2:=ru.len
  rw [vu.tot] at h2;omega
 obtain ⟨P,Q,g1,g2⟩:=hE.gap (Gap.first d (rowN [] A))
 have eN:rowN [] H.ops=P++(blk d++Q):=by rw [e,YG];exact g1
 have eU:rowN [] Hu.ops=P++Q:=by rw [eu,YG];exact g2
 have hids:=O.ids
 have hdm:d∈H.ops:=by rw [e];exact List.mem_append_right _ List.mem_cons_self
 have hA: ∀o∈A,¬(o.c=d.c∧o.n=d.n):=by
  intro o ho hh
  rw [e,List.map_append,List.nodup_append] at hids
  exact hids.2.2 _ (List.mem_map.2 ⟨o,ho,V⟩) _ (List.mem_map.2 ⟨d,List.mem_cons_self,V⟩) (by rw [hh.1,hh.2])
 have hB: ∀o∈B,¬(o.c=d.c∧o.n=d.n):=by
  intro o ho hh
  rw [e,List.map_append,List.nodup_append,List.map_cons,List.nodup_cons] at hids
  exact hids.2.1.1 (List.mem_map.2 ⟨o,ho,by rw [hh.1,hh.2]⟩)
 have ha: ∀c n,¬(c=d.c∧n=d.n)→lastOff c n false Hu.ops=lastOff c n false H.ops:=by
  intro c n hc
  rw [e,eu,YJ,YJ,hE.off hc]
  simp only [lastOff]
  rw [if_neg (fun hh=>hd hh.1)]
 have hcnt: ∀x:Nm,cntS (sgL H.ops [] H.ops) x=cntS (sgL Hu.ops [] Hu.ops) x+(if (hidS (d.kind,true,namesOf d (rowN [] A)) && decide (some x∈namesOf d (rowN [] A)))=true then 1 else 0):=by
  intro x
  have h1:sgL H.ops [] H.ops=sgL H.ops [] A++((d.kind,true,namesOf d (rowN [] A))::sgL H.ops (insRow d (rowN [] A)) B):=by
   conv=>lhs;rw [show sgL H.ops [] H.ops=sgL H.ops [] (A++(d::B)) from by rw [←e]]
   rw [V4]
   simp only [sgL]
   rw [hoff]
  have h2:sgL Hu.ops [] Hu.ops=sgL Hu.ops [] A++sgL Hu.ops (rowN [] A) B':=by
   conv=>lhs;rw [show sgL Hu.ops [] Hu.ops=sgL Hu.ops [] (A++B') from by rw [←eu]]
   rw [V4]
  rw [h1,h2,XQ,XQ,VT,hE.sg x ha hB,sg_same (all:=H.ops) (all':=Hu.ops) (l:=A) fun o ho=>ha _ _ (hA o ho)]
  dsimp only
  omega
 have hat: ∀(q:Nat) (x:Nm) c,(rowN [] H.ops)[q]? =some x→X[q]? =some c→c.2=(cntS (sgL H.ops [] H.ops) x:Nat):=fun q x c h1 h2=>by
  rw [r.cnt q c h2,h.cnt hn h1]
 have hatu: ∀(q:Nat) (x:Nm) c,(rowN [] Hu.ops)[q]? =some x→Xu[q]? =some c→c.2=(cntS (sgL Hu.ops [] Hu.ops) x:Nat):=fun q x c h1 h2=>by
  rw [ru.cnt q c h2,hu.cnt hm h1]
 rw [eN,List.nodup_append,List.nodup_append] at hN
 have hnot: ∀x,x∈rowN [] H.ops→x∉blk d→ ¬(x.1=d.c∧x.2.1=d.n):=by
  intro x hx hxd hh
  rcases EH hx with h1 | ⟨o,ho,hxo⟩
  ·cases h1
  ·have hb:=Gb hxo
   have:=ids_inj O.ids ho hdm (hb.1.symm.trans hh.1) (hb.2.symm.trans hh.2)
   subst this;exact hxd hxo
 have key: ∀(q p:Nat) (x:Nm),(rowN [] H.ops)[q]? =some x→(rowN [] Hu.ops)[p]? =some x→x∉blk d→X[q]? =Xu[p]? :=by
  intro q p x h1 h2 hxd
  have hq:q<X.length:=by
   rcases Nat.lt_or_ge q (rowN [] H.ops).length with h | h
   ·omega
   ·rw [List.getElem?_eq_none h] at h1;cases h1
  have hp:p<Xu.length:=by
   rcases Nat.lt_or_ge p (rowN [] Hu.ops).length with h | h
   ·omega
   ·rw [List.getElem?_eq_none h] at h2;cases h2
  have hid:=hnot x (List.mem_of_getElem? h1) hxd
  obtain ⟨o,o1,o2,o3,o4,o5⟩:=h.rune hn h1
  obtain ⟨u,u1,u2,u3,u4,u5⟩:=hu.rune hm h2
  have htx:u.text=o.text:=by
   rw [eu] at u1
   rcases List.mem_append.1 u1 with u1 | u1
   ·have hum:u∈H.ops:=by rw [e];exact List.mem_append_left _ u1
    rw [ids_inj O.ids hum o1 (u3.trans o3.symm) (u4.trans o4.symm)]
   ·obtain ⟨w,w1,w2⟩:=hE.mem u u1
    have hwm:w∈H.ops:=by rw [e];exact List.mem_append_right _ (List.mem_cons_of_mem _ w1)
    have:=ids_inj O.ids hwm o1 (w2.c.symm.trans (u3.trans o3.symm)) (w2.n.symm.trans (u4.trans o4.symm))
    rw [w2.text,this]
  rw [List.getElem?_eq_getElem hq,List.getElem?_eq_getElem hp]
  rw [List.getElem?_eq_getElem hq] at o5
  rw [List.getElem?_eq_getElem hp,htx,←o5] at u5
  have e1:=hat q x _ h1 (List.getElem?_eq_getElem hq)
  have e2:=hatu p x _ h2 (List.getElem?_eq_getElem hp)
  have hc:=hcnt x
  have hz:(hidS (d.kind,true,namesOf d (rowN [] A)) && decide (some x∈namesOf d (rowN [] A)))=false:=by
   rcases (show d.kind=1∨d.kind≠1 from by omega) with hk | hk
   ·have: ¬some x∈namesOf d (rowN [] A):=by
     unfold namesOf
     rw [if_pos hk]
     simpa using hxd
    simp [this]
   ·have:hidS (d.kind,true,namesOf d (rowN [] A))=false:=by unfold hidS;simp [hk]
    rw [this];rfl
  rw [hz] at hc
  simp only [Bool.false_eq_true,if_false,Nat.add_zero] at hc
  simp only [Option.map_some,Option.some.injEq] at u5
  congr 1
  exact Prod.ext u5.symm (by rw [e1,e2,hc])
 have lX:X.length=P.length+((blk d).length+Q.length):=by rw [←hlN,eN,List.length_append,List.length_append]
 have lU:Xu.length=P.length+Q.length:=by rw [←hlU,eU,List.length_append]
 have s1:Xu.take P.length=X.take P.length:=by
  apply List.ext_getElem?
  intro q
  rw [List.getElem?_take,List.getElem?_take]
  by_cases hq:q<P.length
  ·rw [if_pos hq,if_pos hq]
   have hx:P[q]? =some P[q] :=List.getElem?_eq_getElem hq
   refine (key q q P[q] (by rw [eN,List.getElem?_append_left hq,hx]) (by rw [eU,List.getElem?_append_left hq,hx]) fun hb=> ?_).symm
   exact hN.2.2 _ (List.getElem_mem hq) _ (List.mem_append_left _ hb) V
  ·rw [if_neg hq,if_neg hq]
 have s2:Xu.drop P.length=X.drop (P.length+(blk d).length):=by
  apply List.ext_getElem?
  intro q
  rw [List.getElem?_drop,List.getElem?_drop]
  by_cases hq:q<Q.length
  ·have hx:Q[q]? =some Q[q] :=List.getElem?_eq_getElem hq
   refine (key (P.length+(blk d).length+q) (P.length+q) Q[q] ?_ ?_ fun hb=> ?_).symm
   ·rw [eN,List.getElem?_append_right (by omega),List.getElem?_append_right (by omega),←hx]
    congr 1;omega
   ·rw [eU,List.getElem?_append_right (by omega),←hx]
    congr 1;omega
   ·exact hN.2.1.2.2 _ hb _ (List.getElem_mem hq) V
  ·rw [List.getElem?_eq_none (by omega),List.getElem?_eq_none (by omega)]
 have s3:KQ ((X.drop P.length).take (blk d).length)= [] :=by
  refine Xd fun c hc=> ?_
  obtain ⟨j,hj,rfl⟩:=List.mem_iff_getElem.1 hc
  rw [List.length_take,List.length_drop] at hj
  have hjb:j<(blk d).length:=by omega
  have hxq:(rowN [] H.ops)[P.length+j]? =some (blk d)[j] :=by
   rw [eN,List.getElem?_append_right (by omega),Nat.add_sub_cancel_left,List.getElem?_append_left hjb,List.getElem?_eq_getElem hjb]
  have hXq:X[P.length+j]? =some ((X.drop P.length).take (blk d).length)[j] :=by
   rw [List.getElem_take,List.getElem_drop,List.getElem?_eq_getElem (by omega)]
  have e1:=hat _ _ _ hxq hXq
  rw [e1,hcnt]
  have hk:d.kind=1:=by
   rcases (show d.kind=1∨d.kind≠1 from by omega) with hk | hk
   ·exact hk
   ·rw [Ga (by unfold Jr;rw [if_neg hk])] at hjb;simp at hjb
  rw [if_pos]
  ·omega
  ·have:some (blk d)[j] ∈namesOf d (rowN [] A):=by
    unfold namesOf;rw [if_pos hk]
    exact List.mem_map.2 ⟨_,List.getElem_mem hjb,V⟩
   simp only [this,decide_true,Bool.and_true]
   unfold hidS;simp [hk]
 have eX:X=X.take P.length++((X.drop P.length).take (blk d).length++X.drop (P.length+(blk d).length)):=by
  rw [←List.drop_drop,List.take_append_drop,List.take_append_drop]
 have eXu:Xu=Xu.take P.length++Xu.drop P.length:=(List.take_append_drop _ _).symm
 have f1:KQ X=KQ (X.take P.length)++(KQ ((X.drop P.length).take (blk d).length)++KQ (X.drop (P.length+(blk d).length))):=by
  conv=>lhs;rw [eX]
  rw [K2,K2]
 have f2:KQ Xu=KQ (Xu.take P.length)++KQ (Xu.drop P.length):=by
  conv=>lhs;rw [eXu]
  rw [K2]
 rw [f1,f2,s3,s1,s2,List.nil_append]
def countF:List Rg→Int
 | [] =>0
 | r::rs=>(r.hi-r.lo)+countF rs
def rankF (p:Int):List Rg→Int
 | [] =>0
 | r::rs=>if r.lo≥p then 0 else (min r.hi p-r.lo)+rankF p rs
def meetF (acc:List Rg):List Rg→List Rg→List Rg
 | r::a,s::b=>if r.hi≤s.hi then meetF (addF acc (max r.lo s.lo) (min r.hi s.hi)) a (s::b) else meetF (addF acc (max r.lo s.lo) (min r.hi s.hi)) (r::a) b
 | [],_=>acc
 | _,[] =>acc
 termination_by a b=>a.length+b.length
def packF (acc:List Rg):List Rg→List Rg
 | [] =>acc
 | r::rs=>packF (addF acc r.lo r.hi) rs
theorem HJ {acc:List Rg} {lo hi:Int} (h:acc≠ []):addF acc lo hi≠ [] :=by
 by_cases hlh:hi≤lo
 ·rw [VU hlh];exact h
 ·rcases List.eq_nil_or_concat acc with rfl | ⟨ys,r,rfl⟩
  ·exact absurd V h
  ·rw [List.concat_eq_append] at *
   by_cases hj:lo≤r.hi
   ·rw [QU hlh hj];simp
   ·rw [QS hlh hj];simp
theorem Vi (acc b:List Rg):meetF acc [] b=acc:=by unfold meetF;rfl
theorem V7 (acc a:List Rg):meetF acc a [] =acc:=by cases a<;>(unfold meetF;rfl)
theorem V8 (acc:List Rg) (r s:Rg) (a b:List Rg):meetF acc (r::a) (s::b)=if r.hi≤s.hi then meetF (addF acc (max r.lo s.lo) (min r.hi s.hi)) a (s::b) else meetF (addF acc (max r.lo s.lo) (min r.hi s.hi)) (r::a) b:=by
 rw [meetF]
theorem Xj: ∀(n:Nat) {acc a b:List Rg},a.length+b.length≤n→acc≠ [] →meetF acc a b≠ []
 | n,acc,[],b,_,h=>by rw [Vi];exact h
 | n,acc,r::a,[],_,h=>by rw [V7];exact h
 | 0,acc,r::a,s::b,hn,h=>by simp at hn
 | n+1,acc,r::a,s::b,hn,h=>by
  simp only [List.length_cons] at hn
  rw [V8]
  split
  ·exact Xj n (by simp only [List.length_cons];omega) (HJ h)
  ·exact Xj n (by simp only [List.length_cons];omega) (HJ h)
theorem GU {r:Rg} (hr:r.lo<r.hi): ∀ {b:Int} {xs:List Rg},NormB b xs→meetF [] [r] xs= [] → ∀s∈xs,s.hi≤r.lo∨r.hi≤s.lo
 | b,[],_,_,s,hs=>by cases hs
 | b,x::xs,h,e,s,hs=>by
  rw [V8] at e
  have hx:=h.2.1
  have ho: ¬max r.lo x.lo<min r.hi x.hi:=by
   intro hlt
   have h1:addF [] (max r.lo x.lo) (min r.hi x.hi)≠ [] :=by rw [VI (by omega)];simp
   split at e
   ·exact Xj _ (Nat.le_refl _) h1 e
   ·exact Xj _ (Nat.le_refl _) h1 e
  split at e
  ·rename_i hle
   rcases List.mem_cons.1 hs with rfl | hs
   ·omega
   ·have:=h.2.2.mem s hs;omega
  ·rename_i hle
   rw [VU (by omega)] at e
   rcases List.mem_cons.1 hs with rfl | hs
   ·omega
   ·exact GU hr h.2.2 e s hs
theorem He (xs:List Rg):meetF [] [] xs= [] :=Vi _ _
def SortR:Int→List Rg→Prop
 | _,[] =>True
 | b,r::rs=>b≤r.lo∧r.lo<r.hi∧SortR r.hi rs
theorem SortR.mono {b b':Int} {xs:List Rg} (h:SortR b xs) (hb:b'≤b):SortR b' xs:=by
 cases xs with
 | nil=>trivial
 | cons r xs=>exact ⟨by have:=h.1;omega,h.2⟩
theorem SortR.mem: ∀ {b:Int} {xs:List Rg},SortR b xs→ ∀r∈xs,b≤r.lo∧r.lo<r.hi
 | b,[],_,r,hr=>by cases hr
 | b,x::xs,h,r,hr=>by
  rcases List.mem_cons.1 hr with rfl | hr
  ·exact ⟨h.1,h.2.1⟩
  ·have:=SortR.mem h.2.2 r hr
   have:=h.1;have:=h.2.1;omega
theorem SortR.le: ∀ {b:Int} {xs:List Rg},SortR b xs→ ∀(i j:Nat) (hi:i<xs.length) (hj:j<xs.length),i≤j→xs[i].lo≤xs[j].lo
 | b,[],_,i,j,hi,hj,_=>by simp at hi
 | b,x::xs,h,0,0,hi,hj,_=>Int.le_refl _
 | b,x::xs,h,0,j+1,hi,hj,_=>by
  have:=h.2.2.mem _ (List.getElem_mem (by simpa using hj:j<xs.length))
  have:=h.2.1
  simp only [List.getElem_cons_zero,List.getElem_cons_succ];omega
 | b,x::xs,h,i+1,0,hi,hj,hij=>by omega
 | b,x::xs,h,i+1,j+1,hi,hj,hij=>by
  simp only [List.getElem_cons_succ]
  exact SortR.le h.2.2 i j (by simpa using hi) (by simpa using hj) (by omega)
theorem EO {T:Int} : ∀(xs acc:List Rg) (b:Int),0≤b→SortR b xs→BelowR T xs→NormB 0 acc→BelowR T acc→(∀l,acc.getLast? =some l→l.lo≤b∧l.hi≤b)→NormB 0 (packF acc xs)∧BelowR T (packF acc xs)∧ ∀q,memR q (packF acc xs)↔memR q acc∨memR q xs
 | [],acc,b,_,_,_,h1,h2,_=>⟨h1,h2,fun q=>⟨.inl,fun h=>h.elim id (fun h=>absurd h (Yr q))⟩⟩
 | r::xs,acc,b,hb,hs,ht,h1,h2,hl=>by
  have g1:=hs.1
  have g2:=hs.2.1
  obtain ⟨a1,a2,a3,a4,a5⟩:=Gc (lo:=r.lo) (hi:=r.hi) h1 (by omega) (fun _ l hll=>by have:=hl l hll;omega)
  have a6:=a3 T h2 (fun _=>ht r List.mem_cons_self)
  have hlast: ∀l,(addF acc r.lo r.hi).getLast? =some l→l.lo≤r.hi∧l.hi≤r.hi:=by
   intro l hll
   have h5:=a5 g2 l hll
   refine ⟨by omega,?_⟩
   rcases List.eq_nil_or_concat acc with rfl | ⟨ys,x,rfl⟩
   ·rw [VI (by omega)] at hll
    simp at hll;subst hll;exact Int.le_refl _
   ·rw [List.concat_eq_append] at *
    have hx:=hl x (by simp)
    by_cases hj:r.lo≤x.hi
    ·rw [QU (by omega) hj] at hll
     simp at hll;subst hll
     show max x.hi r.hi≤r.hi;omega
    ·rw [QS (by omega) hj] at hll
     simp at hll;subst hll;exact Int.le_refl _
  obtain ⟨b1,b2,b3⟩:=EO (T:=T) xs (addF acc r.lo r.hi) r.hi (by omega) hs.2.2 (fun x hx=>ht x (List.mem_cons_of_mem _ hx)) a1 a6 hlast
  refine ⟨b1,b2,fun q=> ?_⟩
  simp only [packF]
  rw [b3,a2,KC]
  constructor
  ·rintro ((h | h) | h)
   ·exact .inl h
   ·exact .inr (.inl h)
   ·exact .inr (.inr h)
  ·rintro (h | h | h)
   ·exact .inl (.inl h)
   ·exact .inl (.inr h)
   ·exact .inr h
structure GoneI (d:GOp) (N N':List Nm) (gone:List Rg) (g:Nat):Prop where
 row: ∃P Q,N=P++(blk d++Q)∧N'=P++Q∧P.length=g
 gone:gone=if d.kind=1 then [⟨g,g+Jr d⟩] else []
 z:d.kind≠1→g=0
theorem GoneI.gap {d:GOp} {N N':List Nm} {gone:List Rg} {g:Nat} (h:GoneI d N N' gone g):Gap (blk d) N N':=by
 obtain ⟨P,Q,h1,h2,_⟩:=h.row
 exact ⟨P,Q,h1,h2⟩
theorem GoneI.len {d:GOp} {N N':List Nm} {gone:List Rg} {g:Nat} (h:GoneI d N N' gone g):N.length=N'.length+(blk d).length∧g≤N'.length:=by
 obtain ⟨P,Q,rfl,rfl,h3⟩:=h.row
 simp only [List.length_append];omega
theorem Ja2 {D P Q:List Nm} (q:Int) (hq:0≤q):(P++(D++Q))[(shQ P.length D.length q).toNat]? =(P++Q)[q.toNat]? :=by
 unfold shQ
 split
 ·rw [List.getElem?_append_left (by omega),List.getElem?_append_left (by omega)]
 ·rw [List.getElem?_append_right (by omega),List.getElem?_append_right (by omega),List.getElem?_append_right (by omega)]
  congr 1;omega
theorem GoneI.rank {d:GOp} {N N':List Nm} {gone:List Rg} {g:Nat} (h:GoneI d N N' gone g) (hw:0≤Jr d) (p:Int):rankF p gone=if d.kind=1 then (if p≤g then 0 else min ((g:Int)+Jr d) p-g) else 0:=by
 rw [h.gone]
 split
 ·simp only [rankF]
  by_cases hp:p≤g
  ·rw [if_pos (by omega),if_pos hp]
  ·rw [if_neg (by omega),if_neg hp];omega
 ·rfl
theorem GoneI.count {d:GOp} {N N':List Nm} {gone:List Rg} {g:Nat} (h:GoneI d N N' gone g):countF gone=if d.kind=1 then Jr d else 0:=by
 rw [h.gone]
 split
 ·simp only [countF];omega
 ·rfl
def downR (gone rs:List Rg):List Rg:=rs.map fun r=>⟨r.lo-rankF r.lo gone,r.hi-rankF r.hi gone⟩
theorem HF {g wd:Int} (hg:0≤g) (hw:0≤wd) {rk:Int→Int} (hrk: ∀p,(p≤g→rk p=0)∧(g+wd≤p→rk p=wd)) {T:Int} : ∀ {b:Int} {rs:List Rg},NormB b rs→0≤b→BelowR (T+wd) rs→g≤T→(∀s∈rs,s.hi≤g∨g+wd≤s.lo)→SortR (if b≤g then b else max g (b-wd)) (rs.map fun r=>⟨r.lo-rk r.lo,r.hi-rk r.hi⟩)∧BelowR T (rs.map fun r=>⟨r.lo-rk r.lo,r.hi-rk r.hi⟩)∧ ∀q,memR q (rs.map fun r=>⟨r.lo-rk r.lo,r.hi-rk r.hi⟩)↔memR (if q<g then q else q+wd) rs
 | b,[],_,_,_,_,_=>⟨trivial,fun r hr=>(by cases hr),fun q=>⟨fun h=>absurd h (Yr _),fun h=>absurd h (Yr _)⟩⟩
 | b,r::rs,h,hb,ht,hgT,hd=>by
  have h1:=h.1
  have h2:=h.2.1
  have h3:=ht r List.mem_cons_self
  have h4:=hd r List.mem_cons_self
  have k1:=hrk r.lo
  have k2:=hrk r.hi
  obtain ⟨i1,i2,i3⟩:=HF hg hw hrk (T:=T) h.2.2 (by omega) (fun x hx=>ht x (List.mem_cons_of_mem _ hx)) hgT (fun x hx=>hd x (List.mem_cons_of_mem _ hx))
  have hlo:(r.hi≤g∧rk r.lo=0∧rk r.hi=0)∨(g+wd≤r.lo∧rk r.lo=wd∧rk r.hi=wd):=by
   rcases h4 with h4 | h4
   ·exact .inl ⟨h4,k1.1 (by omega),k2.1 h4⟩
   ·exact .inr ⟨h4,k1.2 h4,k2.2 (by omega)⟩
  refine ⟨⟨?_,?_,i1.mono ?_⟩,?_,fun q=> ?_⟩
  ·dsimp only;split<;>omega
  ·dsimp only;omega
  ·dsimp only;split<;>omega
  ·intro x hx
   rcases List.mem_cons.1 hx with rfl | hx
   ·dsimp only;omega
   ·exact i2 x hx
  ·rw [List.map_cons,KC,KC,i3]
   dsimp only
   constructor
   ·rintro (h | h)
    ·left;split<;>omega
    ·exact .inr h
   ·rintro (h | h)
    ·left;split at h<;>omega
    ·exact .inr h
theorem Xz: ∀ {b T:Int} {xs:List Rg},NormB b xs→BelowR T xs→b≤T→0≤countF xs∧countF xs≤T-b
  | b,T,[],_,_,h=>by simp only [countF];omega
  | b,T,r::rs,hn,ht,_=>by
    have h1:=hn.1
    have h2:=hn.2.1
    have h3:=ht r List.mem_cons_self
    by_cases h4:r.hi+1≤T
    · have:=Xz hn.2.2 (fun x hx=>ht x (List.mem_cons_of_mem _ hx)) h4
      simp only [countF];omega
    · cases rs with
      | nil=>simp only [countF];omega
      | cons x xs=>
        have:=hn.2.2.1
        have:=hn.2.2.2.1
        have:=ht x (List.mem_cons_of_mem _ List.mem_cons_self)
        omega
theorem QO (p:Int): ∀ {b T:Int} {xs:List Rg},NormB b xs→BelowR T xs→b≤T→0≤rankF p xs∧rankF p xs≤T-b
  | b,T,[],_,_,h=>by simp only [rankF];omega
  | b,T,r::rs,hn,ht,_=>by
    have h1:=hn.1
    have h2:=hn.2.1
    have h3:=ht r List.mem_cons_self
    simp only [rankF]
    split
    · omega
    · by_cases h4:r.hi+1≤T
      · have:=QO p hn.2.2 (fun x hx=>ht x (List.mem_cons_of_mem _ hx)) h4
        omega
      · cases rs with
        | nil=>simp only [rankF];omega
        | cons x xs=>
          have:=hn.2.2.1
          have:=hn.2.2.2.1
          have:=ht x (List.mem_cons_of_mem _ List.mem_cons_self)
          omega
theorem V2: ∀(a b:List Rg),countF (a++b)=countF a+countF b
  | [],b=>by simp [countF]
  | r::a,b=>by simp only [List.cons_append,countF,V2 a b];omega
theorem nrm_take: ∀ {b:Int} {xs:List Rg} (k:Nat),NormB b xs→NormB b (xs.take k)
  | b,[],k,_=>by simp [NormB]
  | b,r::rs,0,_=>trivial
  | b,r::rs,k+1,h=>⟨h.1,h.2.1,nrm_take k h.2.2⟩
theorem nrm_drop: ∀ {b:Int} {xs:List Rg} (k:Nat),NormB b xs→NormB b (xs.drop k)
  | b,[],k,_=>by simp [NormB]
  | b,r::rs,0,h=>h
  | b,r::rs,k+1,h=>(nrm_drop k h.2.2).mono (by have:=h.1;have:=h.2.1;omega)
theorem Pls.take {T:Int} {xs:List Rg} (h:Pls T xs) (k:Nat):Pls T (xs.take k):=⟨nrm_take k h.norm,fun r hr=>h.below r (List.mem_of_mem_take hr)⟩
theorem Pls.drop {T:Int} {xs:List Rg} (h:Pls T xs) (k:Nat):Pls T (xs.drop k):=⟨nrm_drop k h.norm,fun r hr=>h.below r (List.mem_of_mem_drop hr)⟩
theorem check_p (A:Option Addr) (c:Nat) (xs:List Rg) (h:Pls 60000 xs):Sp Tryz.prog 107 [.slice A xs.length c] [] [RdF rgD A c xs] (fun v Lo fs=> ∃x,v= .tuple #[.int .i64 x, .int .i64 0] ∧Lo= [] ∧fs= []):=by
  refine (Xl A c xs (by have:=h.len (by omega);omega)).mono ?_
  rintro v Lo fs ⟨rfl,rfl,rfl⟩
  exact ⟨_,by rw [h.ck (by omega)],V,V⟩
theorem count_p (A:Option Addr) (c:Nat) (xs:List Rg) (h:Pls 60000 xs):Sp Tryz.prog 103 [.slice A xs.length c] [] [RdF rgD A c xs] (Is (.tuple #[.int .i64 (countF xs), .int .i64 0])):=by
  have hl:=h.len (by omega)
  refine Sp.of (n:=32) ⟨_,Tryz.func103,V,V,V,V⟩ (Nat.le_of_ble_eq_true V) fun Ps As=>Jc (Ja (Lq (Jd V) (Lq (Jd V) (Je (Jf (Jc (Jc (Ja (Lq (Jb V) (Jg V (Jm (check_p A c xs h) (.n1 V) (by decide) (Jl Mm0 Jx) fun _ _ _ q9=>?_)))))))))))
  obtain ⟨x0,rfl,rfl,rfl⟩:=q9
  refine Lq (Jb V) (Lq (Ji (vs:= [_,_]) V V) (Lq (Ji (vs:= [_,_]) V V) (Lq (Jd V) (Lq (Jd V) (Je (Jf (Jc (Ja (Lq (Jb V) (Lq (Kr V V) (Je (Jf (Ju V V (Jo (Jf (Jc (Ja (Lq (Jd V) ?_))))))))))))))))))
  refine Je (Jf (Jc (Jc (Ja (Lq (Jb V) (Lq (J4 Un45 V) (Lq (Jb V) (Je (Jf (JG [(19,_),(18,_),(17,_),(6,_),(3,_),(2,_)] (.m6 V V V V V V) (JD ?_)))))))))))
  refine Ke (α:=Nat) (fun k=>xs.length-k)
    (fun k=> [(6, .int .i64 (countF (xs.take k))),(17, .slice A xs.length c),(18, .int .i64 xs.length),(19, .int .i64 k)])
    (fun k=>Ps)
    (fun k=>(RdF rgD A c xs::As))
    (fun k=>k≤xs.length)
    0 ?_ (.m4 rfl rfl rfl rfl) (Sr) (fun _ h=>h) ?_
  · exact Nat.zero_le _
  · rintro k hI
    refine Jc (Ja (Lq (Km V V) (Je (Jf (Jc (Jz V (fun h20=> ?_) (fun h20=> ?_)))))))
    · refine Jo (Jf (Jc (JD (Jc ?_))))
      try simp only [Bp,Bq] at *
      have hk:k<xs.length:=by omega
      have hr:=h.norm.mem _ (List.getElem_mem hk)
      have hb:=h.below _ (List.getElem_mem hk)
      have hn1:=Xz (h.take (k+1)).norm (h.take (k+1)).below (by omega)
      have hn0:=Xz (h.take k).norm (h.take k).below (by omega)
      have hsc:countF (xs.take (k+1))=countF (xs.take k)+(xs[k].hi-xs[k].lo):=by rw [List.take_succ_eq_append_getElem hk,V2];simp only [countF];omega
      refine Kd (k:=k) Mm0 (List.getElem?_eq_getElem hk) (rg_open _) fun b7 q7 y7 e7=> ?_
      cases e7
      refine Ja (Lq (J0 Un45 Kf V V (by omega) (by omega)) (Lq (Kg (k:=0) (vs:= [_,_]) Un134 V Kf V Mm0 V V V) (Jg V (Jw (cs:= [_,_]) Kf V (by decide) fun b8=>Jg V (Jq (cs':= [_,_]) (vs:= [_,_]) Kf V V V V V (Nat.le_of_ble_eq_true V) .z (Je (Jf (Ja (Lq (Jb V) (Lq (Jh (o':=1) Un134 V ti3 V V) (Lq (Jk Un3 V V Jn V) (Lq (Jh (o':=0) Un134 V ti3 V V) ?_))))))))))))
      refine Lq (Jk Un3 V V Jn V) (Lq (KG V V (wr64 (by omega))) (Lq (JQ V V (by rw [hsc];exact wr64 (by omega)) (c:=countF (xs.take (k+1)))) (Lq (Jd V) (Je (J7 (Jf (Ja (Lq (JQ V V (wr64 (by omega)) (c:=((k+1:Nat):Int))) (Lq (Jb V) (Je (Ko ?_)))))))))))
      refine ⟨k+1,?_,(.m4 V V V V),(Sd (Sr)),Tt1⟩
      exact ⟨by omega,by omega⟩
    · refine Kh (JH (JH (J6 (Jf (Jc (Ja (Lq (Jb V) (Lq (Jd V) (Lq (Jd V) (Je (Jf (Jp ?_))))))))))))
      refine ⟨_,[],[],fun Z w hs=> .tmp V (.tmp V .nil),?_,fun Z w hs=>hs.out (Sr) (fun _ h=>h)⟩
      try simp only [Bp,Bq] at *
      obtain rfl:k=xs.length:=by omega
      exact ⟨by rw [List.take_length];rfl,V,V⟩
theorem rank_p (A:Option Addr) (c:Nat) (xs:List Rg) (p:Int) (h:Pls 60000 xs) (hp:0≤p∧p≤60000):Sp Tryz.prog 104 [.slice A xs.length c, .int .i64 p] [] [RdF rgD A c xs] (Is (.tuple #[.int .i64 (rankF p xs), .int .i64 0])):=by
  have hl:=h.len (by omega)
  refine Sp.of (n:=46) ⟨_,Tryz.func104,V,V,V,V⟩ (Nat.le_of_ble_eq_true V) fun Ps As=>Jc (Ja (Lq (Jd V) (Lq (Jd V) (Je (Jf (Jc (Jc (Ja (Lq (Jb V) (Jg V (Jm (check_p A c xs h) (.n1 V) (by decide) (Jl Mm0 Jx) fun _ _ _ q9=>?_)))))))))))
  obtain ⟨x0,rfl,rfl,rfl⟩:=q9
  refine Lq (Jb V) (Lq (Ji (vs:= [_,_]) V V) (Lq (Ji (vs:= [_,_]) V V) (Lq (Jd V) (Lq (Jd V) (Je (Jf (Jc (Ja (Lq (Jb V) (Lq (Kr V V) (Je (Jf (Ju V V (Jo (Jf (Jc (Jc (Ja (Lq (Jb V) ?_)))))))))))))))))))
  refine Lq (Km V V) (Lq (Jb V) (Lg V V V (by simp;omega) (Jb V) (Lg V V V (by simp;omega) (Kl V V) (Lq (JL V (by simp;omega) V) (Je (Jf (JG [(24,_),(5,_),(4,_),(0,_),(1,_)] (.m5 V V V V V) (Ju V (by simp;omega) (Jo (Jf (Jc (Ja (Lq (Jd V) ?_)))))))))))))
  refine Je (Jf (Jc (Jc (Ja (Lq (Jb V) (Lq (J4 Un45 V) (Lq (Jb V) (Je (Jf (JD ?_))))))))))
  refine Ke (α:=Nat×Int) (fun (k,n)=>xs.length-k)
    (fun (k,n)=> [(1, .int .i64 p),(8, .int .i64 n),(25, .slice A xs.length c),(26, .int .i64 xs.length),(27, .int .i64 k)])
    (fun (k,n)=>Ps)
    (fun (k,n)=>(RdF rgD A c xs::As))
    (fun (k,n)=>k≤xs.length∧0≤n∧n+rankF p (xs.drop k)=rankF p xs)
    (0,0) ?_ (.m5 rfl rfl rfl rfl rfl) (Sr) (fun _ h=>h) ?_
  · exact ⟨Nat.zero_le _,Int.le_refl _,by rw [List.drop_zero];omega⟩
  · rintro ⟨k,n⟩ hI
    have hle:=hI.1
    have hn:=hI.2.1
    refine Jc (Ja (Lq (Km V V) (Je (Jf (Jc (Jz V (fun h28=> ?_) (fun h28=> ?_)))))))
    · refine Jo (Jf (Jc (JD (Jc ?_))))
      try simp only [Bp,Bq] at *
      have hk:k<xs.length:=by omega
      have hr:=h.norm.mem _ (List.getElem_mem hk)
      have hb:=h.below _ (List.getElem_mem hk)
      have hd:xs.drop k=xs[k] ::xs.drop (k+1):=List.drop_eq_getElem_cons hk
      have hn1:=QO p (h.drop (k+1)).norm (h.drop (k+1)).below (by omega)
      have hn0:=QO p h.norm h.below (by omega)
      have hI2:=hI.2.2
      rw [hd] at hI2
      simp only [rankF] at hI2
      refine Kd (k:=k) Mm0 (List.getElem?_eq_getElem hk) (rg_open _) fun b7 q7 y7 e7=> ?_
      cases e7
      refine Ja (Lq (J0 Un45 Kf V V (by omega) (by omega)) (Lq (Kg (k:=0) (vs:= [_,_]) Un134 V Kf V Mm0 V V V) (Jg V (Jw (cs:= [_,_]) Kf V (by decide) fun b10=>Jg V (Jq (cs':= [_,_]) (vs:= [_,_]) Kf V V V V V (Nat.le_of_ble_eq_true V) .z (Je (Jf (Jc (Jc (Ja (Lq (Jh (o':=0) Un134 V ti3 V V) (Lq (Jk Un3 V V Jn V) (Lq (Jb V) (Lq (Yc V V) ?_))))))))))))))
      refine Je (Jf (Jz V (fun h34=> ?_) (fun h34=> ?_)))
      · refine Kh (JH (XA V (JH (JH (J6 (Jf (Jc (Ja (Lq (Jb V) (Lq (Jd V) (Lq (Jd V) (Je (Jf (JG [(5,_),(4,_)] (.m2 V V) (Jp ?_)))))))))))))))
        refine ⟨_,[],[],fun Z w hs=> .tmp V (.tmp V .nil),?_,fun Z w hs=>hs.out (Sd (Sr)) Tt1⟩
        try simp only [Bp,Bq] at *
        have hz:n=rankF p xs:=by
          first
          | (rw [if_pos (by omega)] at hI2;omega)
          | (have hk2:xs.drop k= [] :=List.drop_eq_nil_of_le (by omega)
             have h3:=hI.2.2
             rw [hk2] at h3
             simp only [rankF] at h3;omega)
        exact ⟨by rw [hz];rfl,V,V⟩
      · refine Jo (Jf ?_)
        try simp only [Bp,Bq] at *
        rw [if_neg (by omega)] at hI2
        refine Ja (Lq (Jb V) (Lq (Jh (o':=1) Un134 V ti3 V V) (Lq (Jk Un3 V V Jn V) (Lq (Jb V) (Lq (Xg V V) (Lq (Jh (o':=0) Un134 V ti3 V V) (Lq (Jk Un3 V V Jn V) (Lq (KG V V (wr64 (by omega))) (Lq (JQ V V (wr64 (by omega)) (c:=n+(min xs[k].hi p-xs[k].lo))) ?_)))))))))
        refine Lq (Jd V) (Je (J7 (Jf (Ja (Lq (JQ V V (wr64 (by omega)) (c:=((k+1:Nat):Int))) (Lq (Jb V) (Je (Ko ?_))))))))
        refine ⟨(k+1,n+(min xs[k].hi p-xs[k].lo)),?_,(.m5 V V V V V),(Sd (Sr)),Tt1⟩
        exact ⟨by show xs.length-(k+1)<xs.length-k;omega,by omega,by show 0≤n+(min xs[k].hi p-xs[k].lo);omega,by show n+(min xs[k].hi p-xs[k].lo)+rankF p (xs.drop (k+1))=rankF p xs;omega⟩
    · refine Kh (JH (JH (J6 (Jf (Jc (Ja (Lq (Jb V) (Lq (Jd V) (Lq (Jd V) (Je (Jf (Jp ?_))))))))))))
      refine ⟨_,[],[],fun Z w hs=> .tmp V (.tmp V .nil),?_,fun Z w hs=>hs.out (Sr) (fun _ h=>h)⟩
      try simp only [Bp,Bq] at *
      have hz:n=rankF p xs:=by
        first
        | (rw [if_pos (by omega)] at hI2;omega)
        | (have hk2:xs.drop k= [] :=List.drop_eq_nil_of_le (by omega)
           have h3:=hI.2.2
           rw [hk2] at h3
           simp only [rankF] at h3;omega)
      exact ⟨by rw [hz];rfl,V,V⟩
theorem both_p (A B:Option Addr) (c d:Nat) (xs ys:List Rg) (h:Pls 60000 xs) (h2:Pls 60000 ys):Sp Tryz.prog 140 [.slice A xs.length c, .slice B ys.length d] [] [RdF rgD A c xs,RdF rgD B d ys] (Is (.int .i64 0)):=by
  refine Sp.of (n:=23) ⟨_,Tryz.func140,V,V,V,V⟩ (Nat.le_of_ble_eq_true V) fun Ps As=>Jc (Ja (Lq (Jd V) (Je (Jf (Jc (Jc (Ja (Lq (Jb V) (Jg V (Jm (check_p A c xs h) (.n1 V) (by decide) (Jl Mm0 Jx) fun _ _ _ q9=>?_))))))))))
  obtain ⟨x0,rfl,rfl,rfl⟩:=q9
  refine Lq (Jb V) (Lq (Ji (vs:= [_,_]) V V) (Lq (Ji (vs:= [_,_]) V V) (Lq (Jd V) (Lq (Jd V) (Je (Jf (Jc (Ja (Lq (Jb V) (Lq (Kr V V) (Je (Jf (Ju V V (Jo (Jf (Jc (Ja (Lq (Jb V) ?_))))))))))))))))))
  refine Jg V (Jm (check_p B d ys h2) (.n1 V) (by decide) (Jl Mm1 Jx) fun _ _ _ q9=>?_)
  obtain ⟨x1,rfl,rfl,rfl⟩:=q9
  refine Lq (Jb V) (Lq (Ji (vs:= [_,_]) V V) (Lq (Ji (vs:= [_,_]) V V) (Lq (Jd V) (Lq (Jd V) (Je (Jf (JG [(8,_),(4,_)] (.m2 V V) (Jc (Ja (Lq (Jb V) (Lq (Jd V) ?_)))))))))))
  refine Je (Jf (Jp ?_))
  refine ⟨_,[],[],fun Z w hs=> .tmp V .nil,?_,fun Z w hs=>hs.out (Sr) (fun _ h=>h)⟩
  exact ⟨V,V,V⟩
theorem less_p (x y:Rg) (hx: -60000≤x.lo∧x.lo≤1048576) (hy: -60000≤y.lo∧y.lo≤1048576):Sp Tryz.prog 142 [.agg (rgC x).toArray, .agg (rgC y).toArray] [] [] (Is (.int .i64 (x.lo-y.lo))):=by
  refine Sp.of (n:=10) ⟨_,Tryz.func142,V,V,V,V⟩ (Nat.le_of_ble_eq_true V) fun Ps As=>Jc (Ja (Jg V (J3 (cs:= [_,_]) V V (by decide) fun b2=>Jg V (J3 (cs:= [_,_]) V V (by decide) fun b3=>Lq (Jd V) (Je (Jf (Jc (Ja (Lq (Jh (o':=0) Un134 V ti3 V V) (Lq (Jk Un3 V V (Jj (Jn)) V) (Lq (Jh (o':=0) Un134 V ti3 V V) (Lq (Jk Un3 V V Jn V) ?_))))))))))))
  refine Lq (KG V V (wr64 (by omega))) (Lq (Jd V) (Je (Jf (Jp ?_))))
  refine ⟨_,[],[],fun Z w hs=> .tmp V .nil,?_,fun Z w hs=>hs.out (Sd2 (Sr)) (fun _ h=>h)⟩
  exact ⟨V,V,V⟩
theorem Jbt (o:GOp) (A:Option Addr) (c:Nat) (hf:Fit o):Sp Tryz.prog 102 [opV o A c] [] [barF,RdF rgD A c o.rs] (Is (.int .i64 (ownF o))):=by
  refine Sp.of (n:=23) ⟨_,Tryz.func102,V,V,V,V⟩ (Nat.le_of_ble_eq_true V) fun Ps As=>Jc (Ja (Jg V (J3 (cs:= [_,_,_,_,_,_,_,_,_]) V V (by decide) fun b1=>Lq (Jd V) (Je (Jf (Jc (Jc (Ja (Lq (Jh (o':=0) Un60 V KM V V) (Lq (Jh (o':=2) Un58 V Yh V V) (Lq (Jk Un44 V V Jn V) (Lq (Kb V V) (Lq (Jb V) ?_)))))))))))))
  refine J1 (t:=7) V (fun g7=> ?_) (fun g7=> ?_)
  · refine Lg V V V g7 (Jh (o':=3) Un60 V ti3 V V) (Lg V V V g7 (Jk Un3 V V Jn V) (Lg V V V g7 (Yc V V) (Lq (JO V g7 V) (Lq (Jb V) (J1 (t:=12) V (fun g12=> ?_) (fun g12=> ?_))))))
    · refine Lg V V V g12 (Jh (o':=3) Un60 V ti3 V V) (Lg V V V g12 (Jk Un3 V V Jn V) (Lg V V V g12 (YQ V V) (Lq (JO V g12 V) (Je (Jf (JG [(16,_),(2,_),(1,_)] (.m3 V V V) (Jz V (fun h16=> ?_) (fun h16=> ?_))))))))
      · refine Jc (Ja (Lq (Js (vs:= [_,_,_,_,_,_,_,_,_]) Un60 V JA V Jn V V) (Lq (Jh (o':=3) Un60 V ti3 V V) (Lq (Jk Un3 V V Jn V) (Jg V (Jm (Yy o A c o.at_ (by have:=hf.text;omega) hf.rs) (.n2 V V) (by decide) (Jl Mm0 (Jl Mm1 Jx)) fun _ _ _ q9=>?_))))))
        obtain ⟨rfl,rfl,rfl⟩:=q9
        refine Lq (Jd V) (Je (Jf (Jp (Jt ?_))))
        refine ⟨_,[],[],fun Z w hs=> .tmp V .nil,?_,fun Z w hs=>hs.out (Sd (Sr)) (fun _ h=>h)⟩
        try simp only [Bp,Bq] at *
        exact ⟨congrArg (Value.int .i64) (by unfold ownF;first | rw [if_pos (by omega)] | rw [if_neg (by omega)]),V,V⟩
      · refine Jo (Jf (Jc (Ja (Lq (Js (vs:= [_,_,_,_,_,_,_,_,_]) Un60 V JA V Jn V V) (Jg V (Jm (Yy o A c 1048576 (by have:=hf.text;omega) hf.rs) (.n2 V V) (by decide) (Jl Mm0 (Jl Mm1 Jx)) fun _ _ _ q9=>?_))))))
        obtain ⟨rfl,rfl,rfl⟩:=q9
        refine Lq (Jd V) (Je (Jf (Jp ?_)))
        refine ⟨_,[],[],fun Z w hs=> .tmp V .nil,?_,fun Z w hs=>hs.out (Sd (Sr)) (fun _ h=>h)⟩
        try simp only [Bp,Bq] at *
        exact ⟨congrArg (Value.int .i64) (by unfold ownF;first | rw [if_pos (by omega)] | rw [if_neg (by omega)]),V,V⟩
    · refine Ln V V V g12 (Ln V V V g12 (Ln V V V g12 (Lq (JL V g12 V) (Je (Jf (JG [(16,_),(2,_),(1,_)] (.m3 V V V) (Ju V V (Jo (Jf (Jc (Ja (Lq (Js (vs:= [_,_,_,_,_,_,_,_,_]) Un60 V JA V Jn V V) (Jg V (Jm (Yy o A c 1048576 (by have:=hf.text;omega) hf.rs) (.n2 V V) (by decide) (Jl Mm0 (Jl Mm1 Jx)) fun _ _ _ q9=>?_))))))))))))))
      obtain ⟨rfl,rfl,rfl⟩:=q9
      refine Lq (Jd V) (Je (Jf (Jp ?_)))
      refine ⟨_,[],[],fun Z w hs=> .tmp V .nil,?_,fun Z w hs=>hs.out (Sd (Sr)) (fun _ h=>h)⟩
      try simp only [Bp,Bq] at *
      exact ⟨congrArg (Value.int .i64) (by unfold ownF;first | rw [if_pos (by omega)] | rw [if_neg (by omega)]),V,V⟩
  · refine Ln V V V g7 (Ln V V V g7 (Ln V V V g7 (Lq (JL V g7 V) (Lq (Jb V) (Ln V V V V (Ln V V V V (Ln V V V V (Lq (JL V V V) (Je (Jf ?_))))))))))
    refine JG [(16,_),(2,_),(1,_)] (.m3 V V V) (Ju V V (Jo (Jf (Jc (Ja (Lq (Js (vs:= [_,_,_,_,_,_,_,_,_]) Un60 V JA V Jn V V) (Jg V (Jm (Yy o A c 1048576 (by have:=hf.text;omega) hf.rs) (.n2 V V) (by decide) (Jl Mm0 (Jl Mm1 Jx)) fun _ _ _ q9=>?_))))))))
    obtain ⟨rfl,rfl,rfl⟩:=q9
    refine Lq (Jd V) (Je (Jf (Jp ?_)))
    refine ⟨_,[],[],fun Z w hs=> .tmp V .nil,?_,fun Z w hs=>hs.out (Sd (Sr)) (fun _ h=>h)⟩
    try simp only [Bp,Bq] at *
    exact ⟨congrArg (Value.int .i64) (by unfold ownF;first | rw [if_pos (by omega)] | rw [if_neg (by omega)]),V,V⟩
structure Srt (xs:List Rg):Prop where
 s:SortR 0 xs
 b:BelowR 60000 xs
theorem Srt.at_ {xs:List Rg} (h:Srt xs) {i:Nat} (hi:i<xs.length):0≤xs[i].lo∧xs[i].lo<xs[i].hi∧xs[i].hi≤60000:=by
 have h1:=h.s.mem _ (List.getElem_mem hi)
 have h2:=h.b _ (List.getElem_mem hi)
 omega
theorem Srt.len: ∀ {b:Int} {xs:List Rg},SortR b xs→BelowR 60000 xs→b≤60000→b+xs.length≤60000
 | b,[],_,_,h=>by simpa using h
 | b,r::rs,h,ht,_=>by
  have h1:=h.1
  have h2:=h.2.1
  have h3:=ht r List.mem_cons_self
  have:=Srt.len h.2.2 (fun x hx=>ht x (List.mem_cons_of_mem _ hx)) h3
  simp only [List.length_cons];omega
theorem Srt.bd {xs:List Rg} (h:Srt xs):xs.length≤60000:=by
 have:=Srt.len h.s h.b (by omega);omega
theorem len8_pos: ∀n:Fin 256,(1≤n.val→1≤Lib.len8 (n.val:Int))∧0≤Lib.len8 (n.val:Int)∧Lib.len8 (n.val:Int)≤8:=by decide +kernel
theorem ZB {P:Program} {l:Fr} {Ps:List Part} {As:List Fact} {d:Option Tmp} {ty:TypeId} {pos:String} {aft:Array Edge} {g:Option (Nat×Bool)} {T:TypeId} {x y:Operand} {k:IntKind} {i:Int} (hu:P.underlying T=some .string) (hx:evs l x=some (.string Lib.len8tab)) (hy:evs l y=some (.int k i)) (h0:0≤i) (h1:i≤255):QR P l Ps As ⟨d, .index T x y,ty,pos,aft,g⟩ (.int .u8 (Lib.len8 i)):=fun Z w ρ hs hρ=>by
 have h:=Lib.run_index_len8tab (P:=P) w T k i hu h0 h1
 simp only [execOp,hρ _ _ hx,hρ _ _ hy,Sem.run_bind,h,Result.andThen_ok,Sem.run_pure]
theorem cvU (x:Int) (w:World):(convert 3 254 (.int .i64 x)).run Tryz.prog w= .ok (.int .u64 (IntKind.u64.wrap x)) w:=by kernel_rfl
theorem cvB (x:Int) (w:World):(convert 266 5 (.int .u64 x)).run Tryz.prog w= .ok (.int .u8 (IntKind.u8.wrap x)) w:=by kernel_rfl
theorem cvI (x:Int) (w:World):(convert 5 3 (.int .u8 x)).run Tryz.prog w= .ok (.int .i64 (IntKind.i64.wrap x)) w:=by kernel_rfl
theorem wu8 {x:Int} (h:0≤x∧x≤255):IntKind.u8.wrap x=x:=by
 have:IntKind.u8.wrap x=x % 256:=rfl
 omega
theorem wu64 {x:Int} (h:0≤x∧x≤60000):IntKind.u64.wrap x=x:=by
 have:IntKind.u64.wrap x=x % 18446744073709551616:=rfl
 omega
theorem Jaz (x:Nat) (hx:x≤60000) (hb: ¬256≤x):Sp Tryz.prog 171 [.int .u64 x] [] [] (fun v Lo fs=>v= .int .i64 (0+Lib.len8 x)∧Lo= [] ∧fs= []):=by
 have hx8:=(len8_pos ⟨x,by omega⟩).2
 have h8a:0≤Lib.len8 (x:Int):=hx8.1
 have h8b:Lib.len8 (x:Int)≤8:=hx8.2
 refine Sp.of (n:=25) ⟨_,Tryz.func171,V,V,V,V⟩ (Nat.le_of_ble_eq_true V) fun Ps As=>Jc (Ja (Lq (Jd V) (Je (Jf (Jc (Jc (Ja (Lq (Jb V) (Lq (Yc V V) (Je (Jf (Ju V (by simp;omega) (Jo (Jf (Jc (Jc (Ja (Lq (Jb V) ?_))))))))))))))))))
 refine Lq (Yc V V) (Je (Jf (Ju V (by simp;omega) (Jo (Jf (Jc (Jc (Ja (Lq (Jb V) (Lq (Yc V V) (Je (Jf (Ju V (by simp;omega) (Jo (Jf (Jc (Ja (Lq (Jb V) ?_))))))))))))))))))
 refine Lq (Jb V) (Lq (K9 V (fun w=>(cvB _ w).trans (by rw [wu8 (by omega)]))) (Lq (ZB Un9 V V (by omega) (by omega)) (Lq (K9 V (fun w=>(cvI _ w).trans (by rw [wr64 (by omega)]))) (Lq (JQ V V (wr64 (by omega))) (Lq (Jd V) (Je (Jf (JG [(2,_)] (.m1 V) (Jp ?_)))))))))
 refine ⟨_,[],[],fun Z w hs=> .tmp V .nil,?_,fun Z w hs=>hs.out (Sr) (fun _ h=>h)⟩
 exact ⟨V,V,V⟩
theorem len64_b (x:Nat) (hx:x≤60000) (hb:256≤x):Sp Tryz.prog 171 [.int .u64 x] [] [] (fun v Lo fs=>v= .int .i64 (8+Lib.len8 ((x / 256:Nat):Int))∧Lo= [] ∧fs= []):=by
 have hx8:=(len8_pos ⟨x / 256,by omega⟩).2
 have h8a:0≤Lib.len8 ((x / 256:Nat):Int):=hx8.1
 have h8b:Lib.len8 ((x / 256:Nat):Int)≤8:=hx8.2
 have hsh:(x:Int).fdiv (2 ^ (min (8:Int).toNat IntKind.u64.bits))=((x / 256:Nat):Int):=by
  rw [show (2:Int) ^ (min (8:Int).toNat IntKind.u64.bits)=256 from rfl,Int.fdiv_eq_ediv_of_nonneg _ (by decide)];omega
 refine Sp.of (n:=25) ⟨_,Tryz.func171,V,V,V,V⟩ (Nat.le_of_ble_eq_true V) fun Ps As=>Jc (Ja (Lq (Jd V) (Je (Jf (Jc (Jc (Ja (Lq (Jb V) (Lq (Yc V V) (Je (Jf (Ju V (by simp;omega) (Jo (Jf (Jc (Jc (Ja (Lq (Jb V) ?_))))))))))))))))))
 refine Lq (Yc V V) (Je (Jf (Ju V (by simp;omega) (Jo (Jf (Jc (Jc (Ja (Lq (Jb V) (Lq (Yc V V) (Je (Jf (JS V (by simp;omega) (Jc (Ja (Lq (Jb V) ?_))))))))))))))))
 refine Lq (Vq V V (by decide) hsh) (Lq (Jd V) (Je (Jf (Ja (Lq (Jb V) (Lq (JQ V V (wr64 (by omega)) (c:=8)) (Lq (Jd V) (Je (Jf (Jc (Ja (Lq (Jb V) (Lq (Jb V) (Lq (K9 V (fun w=>(cvB _ w).trans (by rw [wu8 (by omega)]))) ?_))))))))))))))
 refine Lq (ZB Un9 V V (by omega) (by omega)) (Lq (K9 V (fun w=>(cvI _ w).trans (by rw [wr64 (by omega)]))) (Lq (JQ V V (wr64 (by omega))) (Lq (Jd V) (Je (Jf (JG [(2,_)] (.m1 V) (Jp ?_)))))))
 refine ⟨_,[],[],fun Z w hs=> .tmp V .nil,?_,fun Z w hs=>hs.out (Sr) (fun _ h=>h)⟩
 exact ⟨V,V,V⟩
def LenP (x:Nat):Value→List Part→List Fact→Prop:=fun v Lo fs=> ∃y:Int,v= .int .i64 y∧(1≤x→y≠0)∧Lo= [] ∧fs= []
theorem len64_r (x:Nat) (hx:x≤60000):Sp Tryz.prog 171 [.int .u64 x] [] [] (LenP x):=by
 by_cases hb:256≤x
 ·refine (len64_b x hx hb).mono ?_
  rintro v Lo fs ⟨rfl,rfl,rfl⟩
  have h8a:0≤Lib.len8 ((x / 256:Nat):Int):=(len8_pos ⟨x / 256,by omega⟩).2.1
  exact ⟨_,V,fun _=>by omega,V,V⟩
 ·refine (Jaz x hx hb).mono ?_
  rintro v Lo fs ⟨rfl,rfl,rfl⟩
  refine ⟨_,V,fun h1=> ?_,V,V⟩
  have h8a:1≤Lib.len8 (x:Int):=(len8_pos ⟨x,by omega⟩).1 h1
  omega
theorem blen_r (x:Nat) (hx:x≤60000):Sp Tryz.prog 159 [.int .u64 x] [] [] (LenP x):=by
 refine Sp.of (n:=8) ⟨_,Tryz.func159,V,V,V,V⟩ (Nat.le_of_ble_eq_true V) fun Ps As=>Jc (Ja (Lq (Jd V) (Je (Jf (Jc (Ju V V (Jo (Jf (Jc (Ja (Lq (Jb V) (Jg V (Jm (len64_r x hx) (.n1 V) (by decide) Jx fun _ _ _ q9=>?_)))))))))))))
 obtain ⟨y,rfl,hy,rfl,rfl⟩:=q9
 refine Lq (Jd V) (Je (Jf (Jp ?_)))
 refine ⟨_,[],[],fun Z w hs=> .tmp V .nil,?_,fun Z w hs=>hs.out (Sr) (fun _ h=>h)⟩
 exact ⟨_,V,hy,V,V⟩
theorem order2_p (A:Option Addr) (c:Nat) (xs:List Rg) (hs:Srt xs) (a b:Nat) (hab:a≤b) (hb:b<xs.length) (sw:Option Addr):Sp Tryz.prog 177 [.slice A xs.length c, .int .i64 a, .int .i64 b, .pointer sw, .func (.func 142) #[] #[]] [] [RdF rgD A c xs] (Is (.tuple #[.int .i64 a, .int .i64 b])):=by
 have ha:a<xs.length:=by omega
 have hle:=hs.s.le a b ha hb hab
 refine Sp.of (n:=32) ⟨_,Tryz.func177,V,V,V,V⟩ (Nat.le_of_ble_eq_true V) fun Ps As=>Jc (Ja (Lq (Jd V) (Lq (Jd V) (Je (Jf (Jc (Jc ?_)))))))
 have q1:=hs.at_ hb
 have q2:=hs.at_ ha
 refine Kd (k:=b) Mm0 (List.getElem?_eq_getElem hb) (rg_open _) fun bi qi yi ei=> ?_
 cases ei
 refine Kd (k:=a) Mm1 (List.getElem?_eq_getElem ha) (rg_open _) fun bj qj yj ej=> ?_
 cases ej
 refine JI _ _ [] (.c 0 0 (.c 1 0 (.c 2 0 (.c 3 0 (.c 4 0 (.c 5 0 (.c 6 0 (.c 7 0 (.c 8 0 (.c 9 2 (.c 10 0 .nil))))))))))) mixed (fun _ _ _ _ h=>h) (Sr) (fun _ h=>h) (by kernel_rfl) (by decide) fun ws Z0=>Qe V (Jb V) (Qe V (Jb V) (Qe V (Jb V) (Qe V (J0 Un45 Kf V V (by omega) (by omega)) (Qe V (Kg (k:=0) (vs:= [_,_]) Un134 V Kf V Mm1 V V V) (Qe V (Jb V) (Qe V (Jb V) (Qe V (J0 Un45 Kf V V (by omega) (by omega)) (Qe V (Kg (k:=0) (vs:= [_,_]) Un134 V Kf V Mm0 V V V) ?_))))))))
 refine Jy V V (QC (caps:= []) V (less_p xs[b] xs[a] (by omega) (by omega)) (.n2 V V) (by decide) (List.Perm.refl _) Jx fun u1 Lo fs hres=> ?_)
 obtain ⟨rfl,rfl,rfl⟩:=hres
 refine ⟨⟨(Sr),Mm0⟩,?_⟩
 refine Qe V (Km V V) (JK (JJ (Jf (JG [(22,_),(11,_),(10,_),(1,_),(2,_),(3,_)] (.m6 V V V V V V) (Ju V (by simp;omega) (Jo (Jf (Jc (Ja (Lq (Jb V) (Lq (Jb V) (Lq (Jd V) (Lq (Jd V) ?_)))))))))))))
 refine Je (Jf (Jp ?_))
 refine ⟨_,[],[],fun Z w hs=> .tmp V (.tmp V .nil),?_,fun Z w hs=>hs.out (Sr) Tt3⟩
 exact ⟨V,V,V⟩
theorem median_p (A:Option Addr) (c:Nat) (xs:List Rg) (hs:Srt xs) (a b d:Nat) (hab:a≤b) (hbd:b≤d) (hd:d<xs.length) (sw:Option Addr):Sp Tryz.prog 176 [.slice A xs.length c, .int .i64 a, .int .i64 b, .int .i64 d, .pointer sw, .func (.func 142) #[] #[]] [] [RdF rgD A c xs] (Is (.int .i64 b)):=by
 refine Sp.of (n:=41) ⟨_,Tryz.func176,V,V,V,V⟩ (Nat.le_of_ble_eq_true V) fun Ps As=>Jc (Ja (Lq (Jd V) (Je (Jf (Jc (Ja (Lq (Jb V) (Lq (Jb V) (Lq (Jb V) (Lq (Jb V) (Lq (Jb V) (Jg V (Jm (order2_p A c xs hs a b hab (by omega) sw) (.n5 V V V V V) (by decide) (Jl Mm0 Jx) fun _ _ _ q9=>?_)))))))))))))
 obtain ⟨rfl,rfl,rfl⟩:=q9
 refine Lq (Jb V) (Lq (Ji (vs:= [_,_]) V V) (Lq (Ji (vs:= [_,_]) V V) (Lq (Jd V) (Lq (Jd V) (Je (Jf (JG [(2,_),(1,_),(12,_),(0,_),(3,_),(4,_),(5,_)] (.m7 V V V V V V V) (Jc (Ja (Lq (Jb V) (Lq (Jb V) ?_)))))))))))
 refine Lq (Jb V) (Lq (Jb V) (Lq (Jb V) (Jg V (Jm (order2_p A c xs hs b d hbd hd sw) (.n5 V V V V V) (by decide) (Jl Mm0 Jx) fun _ _ _ q9=>?_))))
 obtain ⟨rfl,rfl,rfl⟩:=q9
 refine Lq (Jb V) (Lq (Ji (vs:= [_,_]) V V) (Lq (Ji (vs:= [_,_]) V V) (Lq (Jd V) (Lq (Jd V) (Je (Jf (JG [(2,_),(1,_),(12,_),(0,_),(4,_),(5,_)] (.m6 V V V V V V) (Jc (Ja (Lq (Jb V) (Lq (Jb V) ?_)))))))))))
 refine Lq (Jb V) (Lq (Jb V) (Lq (Jb V) (Jg V (Jm (order2_p A c xs hs a b hab (by omega) sw) (.n5 V V V V V) (by decide) (Jl Mm0 Jx) fun _ _ _ q9=>?_))))
 obtain ⟨rfl,rfl,rfl⟩:=q9
 refine Lq (Jb V) (Lq (Ji (vs:= [_,_]) V V) (Lq (Ji (vs:= [_,_]) V V) (Lq (Jd V) (Lq (Jd V) (Je (Jf (JG [(2,_),(12,_)] (.m2 V V) (Jc (Ja (Lq (Jb V) (Lq (Jd V) ?_)))))))))))
 refine Je (Jf (Jp ?_))
 refine ⟨_,[],[],fun Z w hs=> .tmp V .nil,?_,fun Z w hs=>hs.out (Sr) (fun _ h=>h)⟩
 exact ⟨V,V,V⟩
theorem medAdj_p (A:Option Addr) (c:Nat) (xs:List Rg) (hs:Srt xs) (a:Nat) (ha:1≤a) (hb:a+1<xs.length) (sw:Option Addr):Sp Tryz.prog 175 [.slice A xs.length c, .int .i64 a, .pointer sw, .func (.func 142) #[] #[]] [] [RdF rgD A c xs] (Is (.int .i64 a)):=by
 have hbd:=hs.bd
 refine Sp.of (n:=18) ⟨_,Tryz.func175,V,V,V,V⟩ (Nat.le_of_ble_eq_true V) fun Ps As=>Jc (Ja (Lq (Jd V) (Je (Jf (Jc (Ja (Lq (Jb V) (Lq (Jb V) (Lq (KG V V (by rw [wr64 (by omega)];omega) (c:=((a-1:Nat):Int))) (Lq (Jb V) (Lq (Jb V) (Lq (JQ V V (wr64 (by omega)) (c:=((a+1:Nat):Int))) ?_))))))))))))
 refine Lq (Jb V) (Lq (Jb V) (Jg V (Jm (median_p A c xs hs (a-1) a (a+1) (by omega) (by omega) hb sw) (.n6 V V V V V V) (by decide) (Jl Mm0 Jx) fun _ _ _ q9=>?_)))
 obtain ⟨rfl,rfl,rfl⟩:=q9
 refine Lq (Jd V) (Je (Jf (JG [(8,_)] (.m1 V) (Jp ?_))))
 refine ⟨_,[],[],fun Z w hs=> .tmp V .nil,?_,fun Z w hs=>hs.out (Sr) (fun _ h=>h)⟩
 exact ⟨V,V,V⟩
theorem pivot_p (A:Option Addr) (c:Nat) (xs:List Rg) (hs:Srt xs) (h12:12<xs.length):Sp Tryz.prog 165 [.slice A xs.length c, .int .i64 0, .int .i64 xs.length, .func (.func 142) #[] #[]] [] [RdF rgD A c xs] (fun v Lo fs=> ∃j:Nat,v= .tuple #[.int .i64 j, .int .i64 1] ∧Lo= [] ∧fs= []):=by
 have hbd:=hs.bd
 have htd:(xs.length:Int).tdiv 4=((xs.length / 4:Nat):Int):=by rw [Int.tdiv_eq_ediv_of_nonneg (by omega)];omega
 obtain ⟨i,hi⟩: ∃i,i=xs.length / 4:=⟨_,rfl⟩
 rw [←hi] at htd
 obtain ⟨j,hj⟩: ∃j,j=2*i:=⟨_,rfl⟩
 obtain ⟨k,hk⟩: ∃k,k=3*i:=⟨_,rfl⟩
 refine Sp.of (n:=63) ⟨_,Tryz.func165,V,V,V,V⟩ (Nat.le_of_ble_eq_true V) fun Ps As=>Jc (Ja (Lq (Jd V) (Lq (Jd V) (Je (Jf (Jc (Ja (Lq (Jb V) (Lq (Jb V) (Lq (KG V V (by rw [wr64 (by omega)];omega) (c:=((xs.length:Nat):Int))) (Lq (Jd V) (Je (Jf (Jc (Ja ?_)))))))))))))))
 refine Jg V (Jw (cs:= [_]) ti3 V (by decide) fun b11=>Je (Jf (Jc (Ja (Lq (Jb V) (Lq (Jb V) (Lq (Gn V V (by decide) (by rw [htd];exact wr64 (by omega)) (c:=(i:Int))) (Lq (EM V V (by rw [Int.mul_one];exact wr64 (by omega)) (c:=(i:Int))) (Lq (JQ V V (by rw [Int.zero_add];exact wr64 (by omega)) (c:=(i:Int))) (Lq (Jd V) (Je (Jf (Jc (Ja (Lq (Jb V) ?_)))))))))))))))
 refine Lq (Jb V) (Lq (Gn V V (by decide) (by rw [htd];exact wr64 (by omega)) (c:=(i:Int))) (Lq (EM V V (by rw [wr64 (by omega)];omega) (c:=(j:Int))) (Lq (JQ V V (by rw [Int.zero_add];exact wr64 (by omega)) (c:=(j:Int))) (Lq (Jd V) (Je (Jf (Jc (Ja (Lq (Jb V) (Lq (Jb V) (Lq (Gn V V (by decide) (by rw [htd];exact wr64 (by omega)) (c:=(i:Int))) (Lq (EM V V (by rw [wr64 (by omega)];omega) (c:=(k:Int))) ?_))))))))))))
 refine Lq (JQ V V (by rw [Int.zero_add];exact wr64 (by omega)) (c:=(k:Int))) (Lq (Jd V) (Je (Jf (Jc (Jc (Ja (Lq (Jb V) (Lq (Yc V V) (Je (Jf (JS V (by simp;omega) (Jc (Jc (Ja (Lq (Jb V) (Lq (Yc V V) ?_))))))))))))))))
 refine Je (Jf (Jz V (fun h36=> ?_) (fun h36=> ?_)))
 ·simp only [decide_eq_true_eq] at h36
  refine Jc (Ja (Lq (Jb V) (Lq (Jb V) (Lq (Jb V) (Jg V (Jm (medAdj_p A c xs hs i (by omega) (by omega) _) (.n4 V V V V) (by decide) (Jl Mm0 Jx) fun _ _ _ q9=>?_))))))
  obtain ⟨rfl,rfl,rfl⟩:=q9
  refine Lq (Jd V) (Je (Jf (Jc (Ja (Lq (Jb V) (Lq (Jb V) (Lq (Jb V) (Jg V (Jm (medAdj_p A c xs hs j (by omega) (by omega) _) (.n4 V V V V) (by decide) (Jl Mm0 Jx) fun _ _ _ q9=>?_)))))))))
  obtain ⟨rfl,rfl,rfl⟩:=q9
  refine Lq (Jd V) (Je (Jf (JG [(13,_),(12,_),(14,_),(11,_),(9,_),(8,_),(0,_),(3,_)] (.m8 V V V V V V V V) (Ja (Lq (Jb V) (Lq (Jb V) (Lq (Jb V) (Jg V (Jm (medAdj_p A c xs hs k (by omega) (by omega) _) (.n4 V V V V) (by decide) (Jl Mm0 Jx) fun _ _ _ q9=>?_)))))))))
  obtain ⟨rfl,rfl,rfl⟩:=q9
  refine Lq (Jd V) (Je (Jf (Ja (Lq (Jb V) (Lq (Jb V) (Lq (Jb V) (Lq (Jb V) (Lq (Jb V) (Jg V (Jm (median_p A c xs hs i j k (by omega) (by omega) (by omega) _) (.n6 V V V V V V) (by decide) (Jl Mm0 Jx) fun _ _ _ q9=>?_))))))))))
  obtain ⟨rfl,rfl,rfl⟩:=q9
  refine Lq (Jd V) (Je (Jf (Jc (Ja (Lq (Jk Un3 V V Jn V) (Je (Jf (JD (Jc (Ja (Lq (Kb V V) (Lq (Jd V) (Je (Jf (JS V V (Jc (Ja (Lq (Jb V) (Lq (Jd V) (Lq (Jd V) ?_))))))))))))))))))))
  refine Je (Jf (Jp (JF ?_)))
  refine ⟨_,[],[],fun Z w hs=> .tmp V (.tmp V .nil),?_,fun Z w hs=>hs.out (Sd (Sr)) (fun _ h=>h)⟩
  exact ⟨j,V,V,V⟩
 ·simp only [decide_eq_false_iff_not] at h36
  refine Jo (Jf (Ja (Lq (Jb V) (Lq (Jb V) (Lq (Jb V) (Lq (Jb V) (Lq (Jb V) (Jg V (Jm (median_p A c xs hs i j k (by omega) (by omega) (by omega) _) (.n6 V V V V V V) (by decide) (Jl Mm0 Jx) fun _ _ _ q9=>?_)))))))))
  obtain ⟨rfl,rfl,rfl⟩:=q9
  refine Lq (Jd V) (Je (Jf (Jc (Ja (Lq (Jk Un3 V V Jn V) (Je (Jf (JG [(55,_),(13,_),(9,_),(8,_)] (.m4 V V V V) (JD (Jc (Ja (Lq (Kb V V) (Lq (Jd V) (Je (Jf (JS V V (Jc (Ja (Lq (Jb V) ?_)))))))))))))))))))
  refine Lq (Jd V) (Lq (Jd V) (Je (Jf (Jp (JF ?_)))))
  refine ⟨_,[],[],fun Z w hs=> .tmp V (.tmp V .nil),?_,fun Z w hs=>hs.out (Sd (Sr)) (fun _ h=>h)⟩
  exact ⟨j,V,V,V⟩
theorem partial_p (A:Option Addr) (c:Nat) (xs:List Rg) (hs:Srt xs) (h0:0<xs.length):Sp Tryz.prog 167 [.slice A xs.length c, .int .i64 0, .int .i64 xs.length, .func (.func 142) #[] #[]] [] [RdF rgD A c xs] (Is (.bool true)):=by
 have hbd:=hs.bd
 refine Sp.of (n:=141) ⟨_,Tryz.func167,V,V,V,V⟩ (Nat.le_of_ble_eq_true V) fun Ps As=>Jc (Ja (Lq (Jd V) (Je (Jf (Jc (Ja (Lq (Jb V) (Lq (JQ V V (wr64 (by omega)) (c:=1)) (Lq (Jd V) (Je (Jf (Jc (Jc (Ja (Lq (Jd V) (Je (Jf (JD ?_))))))))))))))))))
 refine Ke (α:=Nat) (fun z=>z)
  (fun z=> [(0, .slice A xs.length c),(1, .int .i64 0),(2, .int .i64 xs.length),(3, .func (.func 142) #[] #[]),(9, .int .i64 1),(10, .int .i64 0)])
  (fun z=>Ps)
  (fun z=>(RdF rgD A c xs::As))
  (fun z=>z=z)
  0 ?_ (.m6 rfl rfl rfl rfl rfl rfl) (Sr) (fun _ h=>h) ?_
 ·rfl
 ·rintro z hz
  refine Jc (Jc (Ja (Lq (Jb V) (Lq (Km V V) (Je (Jf (JS V V (Jo (Jf (Jc (JD (Jc (JD ?_)))))))))))))
  refine Ke (α:=Nat) (fun i=>xs.length-i)
   (fun i=> [(0, .slice A xs.length c),(1, .int .i64 0),(2, .int .i64 xs.length),(3, .func (.func 142) #[] #[]),(9, .int .i64 i),(10, .int .i64 0)])
   (fun i=>Ps)
   (fun i=>(RdF rgD A c xs::As))
   (fun i=>1≤i∧i≤xs.length)
   1 ?_ (.m6 rfl rfl rfl rfl rfl rfl) (Sr) (fun _ h=>h) ?_
  ·exact ⟨Nat.le_refl _,by omega⟩
  ·rintro i hI
   refine Jc (Jc ?_)
   by_cases hin:i<xs.length
   ·have hi1:i-1<xs.length:=by omega
    have hle:=hs.s.le (i-1) i hi1 hin (by omega)
    have q1:=hs.at_ hin
    have q2:=hs.at_ hi1
    refine Kd (k:=i) Mm0 (List.getElem?_eq_getElem hin) (rg_open _) fun bi qi yi ei=> ?_
    cases ei
    refine Kd (k:=(i-1)) Mm1 (List.getElem?_eq_getElem hi1) (rg_open _) fun bj qj yj ej=> ?_
    cases ej
    refine JI _ _ [] (.c 0 0 (.c 1 0 (.c 2 0 (.c 3 0 (.c 4 0 (.c 5 0 (.c 6 0 (.c 7 0 (.c 8 0 (.c 9 0 (.c 10 0 (.c 11 0 (.c 12 0 (.c 13 0 (.c 14 2 (.c 15 0 (.c 16 0 (.c 17 0 .nil)))))))))))))))))) mixed (fun _ _ _ _ h=>h) (Sr) (fun _ h=>h) (by kernel_rfl) (by decide) fun ws Z0=>Qe V (Jb V) (Qe V (Jb V) (Qe V (Km V V) (Qe V (Jb V) (Kj V V V V (by simp;omega) (Jb V) (by decide) (Kj V V V V (by simp;omega) (Jb V) (by decide) (Kj V V V V (by simp;omega) (Jb V) (by decide) (Kj V V V V (by simp;omega) (J0 Un45 Kf V V (by omega) (by omega)) (by decide) (Kj V V V V (by simp;omega) (Kg (k:=0) (vs:= [_,_]) Un134 V Kf V Mm1 V V V) (by decide) ?_))))))))
    refine Kj V V V V (by simp;omega) (Jb V) (by decide) (Kj V V V V (by simp;omega) (Jb V) (by decide) (Kj V V V V (by simp;omega) (KG V V (by rw [wr64 (by omega)];omega) (c:=((i-1:Nat):Int))) (by decide) (Kj V V V V (by simp;omega) (J0 Un45 Kf V V (by omega) (by omega)) (by decide) (Kj V V V V (by simp;omega) (Kg (k:=0) (vs:= [_,_]) Un134 V Kf V Mm0 V V V) (by decide) (Qh V V V V V (by simp;omega) (QC (caps:= []) V (less_p xs[i] xs[(i-1)] (by omega) (by omega)) (.n2 V V) (by decide) (List.Perm.refl _) Jx fun u1 Lo fs hres=> ?_))))))
    obtain ⟨rfl,rfl,rfl⟩:=hres
    refine ⟨⟨(Sr),Mm0⟩,?_⟩
    refine Kj V V V V (by simp;omega) (Km V V) (by decide) (Kj V V V V (by simp;omega) (KU V) (by decide) (Qe V (JO V (by simp;omega) V) (JK (JJ (Jf (JS V (by simp;omega) (Jo (Jf (JD (Ja (Lq (Jb V) (Lq (JQ V V (wr64 (by omega)) (c:=((i+1:Nat):Int))) (Lq (Jd V) ?_)))))))))))))
    refine Je (J7 (Ko ?_))
    refine ⟨i+1,?_,(.m6 V V V V V V),(Sr),Tt3⟩
    exact ⟨by omega,by omega,by omega⟩
   ·obtain rfl:i=xs.length:=by omega
    refine JI _ _ [] (.c 0 0 (.c 1 0 (.c 2 0 (.c 3 0 (.c 4 0 (.c 5 0 (.c 6 0 (.c 7 0 (.c 8 0 (.c 9 0 (.c 10 0 (.c 11 0 (.c 12 0 (.c 13 0 (.c 14 2 (.c 15 0 (.c 16 0 (.c 17 0 .nil)))))))))))))))))) mixed (fun _ _ _ _ h=>h) (Sr) (fun _ h=>h) (by kernel_rfl) (by decide) fun ws Z0=>Qe V (Jb V) (Qe V (Jb V) (Qe V (Km V V) (Qe V (Jb V) (KB V V V V (by simp) (by decide) (KB V V V V (by simp) (by decide) (KB V V V V (by simp) (by decide) (KB V V V V (by simp) (by decide) (KB V V V V (by simp) (by decide) ?_))))))))
    refine KB V V V V (by simp) (by decide) (KB V V V V (by simp) (by decide) (KB V V V V (by simp) (by decide) (KB V V V V (by simp) (by decide) (KB V V V V (by simp) (by decide) (Ew V V V V (by simp) (by decide) (KB V V V V (by simp) (by decide) (KB V V V V (by simp) (by decide) (Qe V (JL V (by simp) V) (JK (JJ ?_))))))))))
    refine Jf (Ju V V (Kh (JH (JH (J6 (Jf (Jc (Jc (Ja (Lq (Jb V) (Lq (Jb V) (Lq (Kb V V) (Je (Jf (JS V (by simp) (Jc (Ja (Lq (Jd V) (Je (Jf (Jp (Jt (JF (Jt (Jt (JF ?_))))))))))))))))))))))))))
    refine Jt ?_
    refine ⟨_,[],[],fun Z w hs=> .tmp V .nil,?_,fun Z w hs=>hs.out (Sr) Tt1⟩
    exact ⟨V,V,V⟩
theorem insertion_p (A:Option Addr) (c:Nat) (xs:List Rg) (hs:Srt xs):Sp Tryz.prog 162 [.slice A xs.length c, .int .i64 0, .int .i64 xs.length, .func (.func 142) #[] #[]] [] [RdF rgD A c xs] (Is (.tuple #[])):=by
 have hbd:=hs.bd
 refine Sp.of (n:=53) ⟨_,Tryz.func162,V,V,V,V⟩ (Nat.le_of_ble_eq_true V) fun Ps As=>Jc (Ja (Lq (Jb V) (Lq (JQ V V (wr64 (by omega)) (c:=((1:Nat):Int))) (Lq (Jd V) (Je (Jf (JD ?_)))))))
 refine Ke (α:=Nat) (fun i=>xs.length+1-i)
  (fun i=> [(0, .slice A xs.length c),(1, .int .i64 0),(2, .int .i64 xs.length),(3, .func (.func 142) #[] #[]),(8, .int .i64 i)])
  (fun i=>Ps)
  (fun i=>(RdF rgD A c xs::As))
  (fun i=>1≤i)
  1 ?_ (.m5 rfl rfl rfl rfl rfl) (Sr) (fun _ h=>h) ?_
 ·exact Nat.le_refl _
 ·rintro i hI
  refine Jc (Jc (Ja (Lq (Jb V) (Lq (Jb V) (Lq (Km V V) (Je (Jf (Jz V (fun h14=> ?_) (fun h14=> ?_)))))))))
  ·refine Jo (Jf (Jc (JD (Jc ?_))))
   try simp only [Bp,Bq] at *
   have hin:i<xs.length:=by omega
   refine Ja (Lq (Jb V) (Lq (Jd V) (Je (Jf (JD ?_)))))
   refine Ke (α:=Nat) (fun z=>z)
    (fun z=> [(0, .slice A xs.length c),(1, .int .i64 0),(2, .int .i64 xs.length),(3, .func (.func 142) #[] #[]),(8, .int .i64 i),(9, .int .i64 i)])
    (fun z=>Ps)
    (fun z=>(RdF rgD A c xs::As))
    (fun z=>z=z)
    0 ?_ (.m6 rfl rfl rfl rfl rfl rfl) (Sr) (fun _ h=>h) ?_
   ·rfl
   ·rintro z hz
    refine Jc (Jc ?_)
    have hi1:i-1<xs.length:=by omega
    have hle:=hs.s.le (i-1) i hi1 hin (by omega)
    have q1:=hs.at_ hin
    have q2:=hs.at_ hi1
    refine Kd (k:=i) Mm0 (List.getElem?_eq_getElem hin) (rg_open _) fun bi qi yi ei=> ?_
    cases ei
    refine Kd (k:=(i-1)) Mm1 (List.getElem?_eq_getElem hi1) (rg_open _) fun bj qj yj ej=> ?_
    cases ej
    refine JI _ _ [] (.c 0 0 (.c 1 0 (.c 2 0 (.c 3 0 (.c 4 0 (.c 5 0 (.c 6 0 (.c 7 0 (.c 8 0 (.c 9 0 (.c 10 0 (.c 11 0 (.c 12 0 (.c 13 0 (.c 14 2 (.c 15 0 (.c 16 0 .nil))))))))))))))))) mixed (fun _ _ _ _ h=>h) (Sr) (fun _ h=>h) (by kernel_rfl) (by decide) fun ws Z0=>Qe V (Jb V) (Qe V (Jb V) (Qe V (Kl V V) (Qe V (Jb V) (Kj V V V V (by simp;omega) (Jb V) (by decide) (Kj V V V V (by simp;omega) (Jb V) (by decide) (Kj V V V V (by simp;omega) (Jb V) (by decide) (Kj V V V V (by simp;omega) (J0 Un45 Kf V V (by omega) (by omega)) (by decide) (Kj V V V V (by simp;omega) (Kg (k:=0) (vs:= [_,_]) Un134 V Kf V Mm1 V V V) (by decide) ?_))))))))
    refine Kj V V V V (by simp;omega) (Jb V) (by decide) (Kj V V V V (by simp;omega) (Jb V) (by decide) (Kj V V V V (by simp;omega) (KG V V (by rw [wr64 (by omega)];omega) (c:=((i-1:Nat):Int))) (by decide) (Kj V V V V (by simp;omega) (J0 Un45 Kf V V (by omega) (by omega)) (by decide) (Kj V V V V (by simp;omega) (Kg (k:=0) (vs:= [_,_]) Un134 V Kf V Mm0 V V V) (by decide) (Qh V V V V V (by simp;omega) (QC (caps:= []) V (less_p xs[i] xs[(i-1)] (by omega) (by omega)) (.n2 V V) (by decide) (List.Perm.refl _) Jx fun u1 Lo fs hres=> ?_))))))
    obtain ⟨rfl,rfl,rfl⟩:=hres
    refine ⟨⟨(Sr),Mm0⟩,?_⟩
    refine Kj V V V V (by simp;omega) (Km V V) (by decide) (Qe V (JO V (by simp;omega) V) (JK (JJ (Jf (Ju V (by simp;omega) (Kh (JH (JH (J6 (J7 (Jf (Ja (Lq (Jb V) (Lq (JQ V V (wr64 (by omega)) (c:=((i+1:Nat):Int))) (Lq (Jd V) (Je (Ko ?_)))))))))))))))))
    refine ⟨i+1,?_,(.m5 V V V V V),(Sr),Tt3⟩
    exact ⟨by omega,by omega⟩
  ·refine Kh (JH (JH (J6 ?_)))
   refine ⟨_,[],[],fun Z w hs=> .nil,?_,fun Z w hs=>hs.out (Sr) (fun _ h=>h)⟩
   exact ⟨V,V,V⟩
theorem pdq_p (A:Option Addr) (c:Nat) (xs:List Rg) (hs:Srt xs) (y:Int) (hy:1≤xs.length→y≠0):Sp Tryz.prog 158 [.slice A xs.length c, .int .i64 0, .int .i64 xs.length, .int .i64 y, .func (.func 142) #[] #[]] [] [RdF rgD A c xs] (Is (.tuple #[])):=by
 have hbd:=hs.bd
 refine Sp.of (n:=148) ⟨_,Tryz.func158,V,V,V,V⟩ (Nat.le_of_ble_eq_true V) fun Ps As=>Jc (Ja (Lq (Jd V) (Je (Jf (Jc (Ja (Lq (Jd V) (Je (Jf (JD ?_))))))))))
 refine Ke (α:=Nat) (fun z=>z)
  (fun z=> [(0, .slice A xs.length c),(1, .int .i64 0),(2, .int .i64 xs.length),(3, .int .i64 y),(4, .func (.func 142) #[] #[]),(10, .bool true),(11, .bool true)])
  (fun z=>Ps)
  (fun z=>(RdF rgD A c xs::As))
  (fun z=>z=z)
  0 ?_ (.m7 rfl rfl rfl rfl rfl rfl rfl) (Sr) (fun _ h=>h) ?_
 ·rfl
 ·rintro z hz
  refine JD (Jc (Ja (Lq (Jb V) (Lq (Jb V) (Lq (KG V V (by rw [wr64 (by omega)];omega) (c:=(xs.length:Int))) (Lq (Jd V) (Je (Jf (Jc (Jc (Ja (Lq (Jb V) (Lq (YQ V V) (Je (Jf (Jz V (fun h25=> ?_) (fun h25=> ?_)))))))))))))))))
  ·refine Jc (Ja (Lq (Jb V) (Lq (Jb V) (Lq (Jb V) (Lq (Jb V) (Jg V (Jm (insertion_p A c xs hs) (.n4 V V V V) (by decide) (Jl Mm0 Jx) fun _ _ _ q9=>?_)))))))
   obtain ⟨rfl,rfl,rfl⟩:=q9
   refine Je (Jf (Jp (Jt (JF (Jt (JF ?_))))))
   refine ⟨_,[],[],fun Z w hs=> .nil,?_,fun Z w hs=>hs.out (Sr) (fun _ h=>h)⟩
   exact ⟨V,V,V⟩
  ·refine Jo (Jf (Jc (Jc (Ja (Lq (Jb V) (Lq (Kb V V) (Je (Jf (Ju V (by have:=hy (by simp only [decide_eq_false_iff_not] at h25;omega);simpa using this) (Jo (Jf (Jc (Jc (Ja (Lq (Jb V) (Lq (KU V) (Je (Jf (Ju V V (Jo (Jf (Jc (Ja (Lq (Jb V) ?_))))))))))))))))))))))))
   refine Lq (Jb V) (Lq (Jb V) (Lq (Jb V) (Jg V (Jm (pivot_p A c xs hs (by simp only [decide_eq_false_iff_not] at h25;omega)) (.n4 V V V V) (by decide) (Jl Mm0 Jx) fun _ _ _ q9=>?_))))
   obtain ⟨j,rfl,rfl,rfl⟩:=q9
   refine Lq (Jb V) (Lq (Ji (vs:= [_,_]) V V) (Lq (Ji (vs:= [_,_]) V V) (Lq (Jd V) (Lq (Jd V) (Je (Jf (Jc (Jc (Ja (Lq (Jb V) (Lq (Kb V V) (Je (Jf (Ju V V (Jo (Jf (Jc (Jc (Ja (Lq (Jb V) ?_))))))))))))))))))))
   refine Lq (Jb V) (Lg V V V V (Jb V) (Lq (JO V V V) (Lq (Jb V) (Lg V V V V (Jb V) (Lg V V V V (Kb V V) (Lq (JO V V V) (Je (Jf (JS V V (Jc (Ja (Lq (Jb V) (Lq (Jb V) ?_)))))))))))))
   refine Lq (Jb V) (Lq (Jb V) (Jg V (Jm (partial_p A c xs hs (by simp only [decide_eq_false_iff_not] at h25;omega)) (.n4 V V V V) (by decide) (Jl Mm0 Jx) fun _ _ _ q9=>?_)))
   obtain ⟨rfl,rfl,rfl⟩:=q9
   refine Je (Jf (JS V V (Jp (Jt (JF (Jt (JF ?_)))))))
   refine ⟨_,[],[],fun Z w hs=> .nil,?_,fun Z w hs=>hs.out (Sr) (fun _ h=>h)⟩
   exact ⟨V,V,V⟩
theorem sort_p (A:Option Addr) (c:Nat) (xs:List Rg) (hs:Srt xs):Sp Tryz.prog 141 [.slice A xs.length c, .func (.func 142) #[] #[]] [] [RdF rgD A c xs] (Is (.tuple #[])):=by
 have hbd:=hs.bd
 refine Sp.of (n:=14) ⟨_,Tryz.func141,V,V,V,V⟩ (Nat.le_of_ble_eq_true V) fun Ps As=>Jc (Ja (Lq (Jb V) (Lq (J4 Un45 V) (Lq (Jd V) (Je (Jf (Ja (Lq (Jb V) (Lq (Jb V) (Lq (Jb V) (Lq (K9 V (fun w=>(cvU _ w).trans (by rw [wu64 (by omega)]))) ?_)))))))))))
 refine Jg V (Jm (blen_r xs.length (by omega)) (.n1 V) (by decide) Jx fun _ _ _ q9=>?_)
 obtain ⟨y,rfl,hy,rfl,rfl⟩:=q9
 refine Lq (Jb V) (Jg V (Jm (pdq_p A c xs hs y hy) (.n5 V V V V V) (by decide) (Jl Mm0 Jx) fun _ _ _ q9=>?_))
 obtain ⟨rfl,rfl,rfl⟩:=q9
 refine Je ?_
 refine ⟨_,[],[],fun Z w hs=> .nil,?_,fun Z w hs=>hs.out (Sr) (fun _ h=>h)⟩
 exact ⟨V,V,V⟩
end Go.Proofs.YtggbpikbmnkiaaaGreatDoor
