import Derived.Test.YtopobgihpdaggaaGreatDoorZ20
set_option linter.unusedVariables false
set_option linter.unusedSimpArgs false
open And renaming intro->ai
open Bool renaming eq_false_or_eq_true->bO,false_eq_true->cJ
open List renaming append_nil->bN,cons_append->bR,foldr->bU,forall_mem_cons->jf,headD_cons->iy,length_append->ia,map_append->Co,map_congr_left->re,map_id->zJ,mem_append->gY,mem_cons_of_mem->fE,mem_cons_self->ey,mem_map_of_mem->gP,mem_replicate->xF,mem_singleton->xE,nil_append->bQ,not_mem_nil->fu,range->dB,replicate->bP,replicate_succ'->IX
open Nat renaming le_refl->cx,not_lt_zero->fD,succ_ne_zero->SZ,zero_le->cv
open Option renaming getD_some->fV,map_some->eW
open Go.Proofs.Tryz renaming prog->ae
open Go.Proofs.Tryz
namespace Go.Proofs.YtopobgihpdaggaaGreatDoor
set_option maxRecDepth 100000
set_option maxHeartbeats 4000000
open Go.Ab
attribute[local irreducible] az dI dR ax aT IA fP aZ gZ
abbrev sj (s:bh)(m sh mp:D)(cost:Int)(ac:D):List D:=cR s++[m,sh,mp,i64 cost,ac, .bool true]
theorem AJ (s:bh)(m sh mp:D)(cost:Int)(ac:D)(B:List Bx)(rw:List Row):aT ae 68 [.box 0 0] (.mu (sj s m sh mp cost ac)::B) rw (bw (.bool false) (.mu (sj s m sh mp cost ac)::B) rw):=by
 refine cV func68 ntmps68 results68 call68 rfl ay λW0 S0 M0 own β hβ=> ?_;repeat'(first|(show cT _ _ _ _ _;refine av ?_)|refine aB ?_|refine aC λK hK=> ?_|(refine kA ?_;clear hK K)|(intro hg;try exact aw)|exact fin|apply ai)
theorem ae_ (s:bh)(m sh mp:D)(cost:Int)(ac:D)(B:List Bx)(rw:List Row):aT ae 216 [.box 0 0] (.mu (sj s m sh mp cost ac)::B) rw (bw (.aQ [i64 cost,i64 0]) (.mu (sj s m sh mp cost ac)::B) rw):=by
 have c1:=AJ s m sh mp cost ac B rw;refine cV func216 ntmps216 results216 call216 rfl ay λW0 S0 M0 own β hβ=> ?_;repeat'(first|(show az _ (.region 1 _ _) _ _;refine eo 1 rfl (λK1 aK=> ?_);refine av ?_)|(refine aK _ (cC c1 (by simp[bp]) rfl rfl rfl rfl ?_);clear aK K1;rintro d aF aL ⟨rfl,rfl,rfl⟩;simp only[bF,Nat.reduceAdd];refine av ?_)|(show cT _ _ _ _ _;refine av ?_)|refine aB ?_|refine aC λK hK=> ?_|(refine kA ?_;clear hK K)|(intro hg;try exact aw)|exact fin|apply ai)
theorem WW (l:List Int):ax ae 210 [ints l] (ints l):=by
 refine aR func210 ntmps210 results210 call210 rfl ay λw0 S0 M0=> ?_;repeat'(first|refine aB ?_|refine aC λK hK=> ?_|(refine kA ?_;clear hK K)|(intro hg;try exact aw)|exact fin|apply ai)
theorem aet (s:bh)(m sh mp:D)(cost:Int)(ac x y:D)(B:List Bx)(rw:List Row):aT ae 152 [.box 0 0,x,y] (.mu (sj s m sh mp cost ac)::B) rw (bw (.aQ [ints [cost],i64 0]) (.mu (sj s m sh mp cost ac)::B) rw):=by
 have c1:=ae_ s m sh mp cost ac B rw;have c2:=WW [cost];refine cV func152 ntmps152 results152 call152 rfl ay λW0 S0 M0 own β hβ=> ?_;repeat'(first|(show az _ (.region 1 _ _) _ _;refine eo 1 rfl (λK1 aK=> ?_);refine av ?_)|(refine aK _ (cC c1 (by simp[bp]) rfl rfl rfl rfl ?_);clear aK K1;rintro d aF aL ⟨rfl,rfl,rfl⟩;simp only[bF,Nat.reduceAdd];refine av ?_)|(show cT _ _ _ _ _;refine av ?_)|refine aB ?_|refine aC λK hK=> ?_|refine cA (c2) ?_|(refine kA ?_;clear hK K)|(intro hg;try exact aw)|exact fin|apply ai)
end Go.Proofs.YtopobgihpdaggaaGreatDoor
namespace Go.Proofs.YtopobgihpdaggaaGreatDoor
open Go.Ab
theorem tH {nb:Nat}{sl:Nat->D}(h:∀m,dA nb 0 (sl m)=true):sc nb sl=sl:=funext λm=>by simp[sc,iZ,h m]
theorem sM {nb:Nat}{l:List (Nat×D)}(h:(l.all λp=>dA nb 0 p.2)=true)(m:Nat):dA nb 0 (bj l m)=true:=by
 rcases Nv l m with e|⟨p,hp,_,e⟩
 ·rw[e];rfl
 ·rw[e];exact List.all_eq_true.1 h p hp
end Go.Proofs.YtopobgihpdaggaaGreatDoor
namespace Go.Proofs.YtopobgihpdaggaaGreatDoor
set_option maxRecDepth 100000
set_option maxHeartbeats 4000000
open Go.Ab
attribute[local irreducible] az dI dR ax aT IA fP aZ gZ
theorem aer {ops:Array Oper}(cj:ops=dK Tryz.f271 9)(w0:World)(S0:Addr->Prop)(eG:MM)(own:Nat->Prop)(β:List Nat)(A B:List Int)(p:Nat)(W len:Int)(M0 Z0 C0 X:List D)(hM0:M0.map (gI 0)=M0)(hZ0:Z0.map (gI 0)=Z0)(hC0:C0.map (gI 0)=C0)(hX:X.length<=100)(hA:p < A.length)(hB:p < B.length)(bA:0<=nth A p/\nth A p<=99999)(bB:0<=nth B p/\nth B p<=99999)(bV:0<=(nth A p + nth B p).tdiv 2/\(nth A p + nth B p).tdiv 2<=99999)
  {Q:Exit->St->Prop}{T:dX}(hQ:Q .normal ⟨48,((T.foldr (λe f=>put f e.2.1 (e.2.2 λ_=>true)) (bj [(1, .box 0 0),(2, .box 1 0),(4, .box 2 0),(6, .box 3 0),(7, .box 4 0),(8,i64 p),(25,i64 len),(26,i64 p)]))),(λ(L:Nat->Bool)=>[.mu M0, .mu Z0, .mu C0, .mu [ints A,ints B], .mu [i64 W,bif L 17 then .own 0 else bif L 15 then .undef else .own 0]]) (λ_=>true),(λ(L:Nat->Bool)=>[⟨true,3,1,bif L 15 then X++[i64 ((nth A p + nth B p).tdiv 2)]else X⟩]) (λ_=>true)⟩)(hT:T=[(0,29,λL=> .box 4 1),(1,30,λL=>bif L 15 then .undef else .own 0),(2,31,λL=> .box 3 0),(3,32,λL=>ints A),(4,33,λL=>i64 p),(5,34,λL=> .ro [i64 (nth A p)]),(6,35,λL=>i64 (nth A p)),(7,36,λL=> .box 3 1),(8,37,λL=>ints B),(9,38,λL=>i64 p),(10,39,λL=> .ro [i64 (nth B p)]),(11,40,λL=>i64 (nth B p)),(12,41,λL=>i64 (nth A p + nth B p)),(13,42,λL=>i64 ((nth A p + nth B p).tdiv 2)),(14,43,λL=> .list [i64 ((nth A p + nth B p).tdiv 2)]),(15,44,λL=> .own 0),(16,45,λL=> .box 4 1)]:=by rfl):
  az ⟨ae,w0,S0,eG,none,own,β⟩ (.region 9 ops true) Q ⟨48,bj [(1, .box 0 0),(2, .box 1 0),(4, .box 2 0),(6, .box 3 0),(7, .box 4 0),(8,i64 p),(25,i64 len),(26,i64 p)],(λ(L:Nat->Bool)=>[.mu M0, .mu Z0, .mu C0, .mu [ints A,ints B], .mu [i64 W,bif L 17 then .own 0 else bif L 15 then .undef else .own 0]]) (λ_=>false),(λ(L:Nat->Bool)=>[⟨true,3,1,bif L 15 then X++[i64 ((nth A p + nth B p).tdiv 2)]else X⟩]) (λ_=>false)⟩:=by
 simp only[dK,eW,fV,Tryz.f271,fB,Nat.reduceBEq,cJ,if_false,if_true,bQ,bN,bR,iy,reduceIte,eq_self]at cj;subst cj;have ba:T.map (·.1)=[0,1,2,3,4,5,6,7,8,9,10,11,12,13,14,15,16]:=by rw[hT];rfl
 have cQ:T.map (·.2.1)=[29,30,31,32,33,34,35,36,37,38,39,40,41,42,43,44,45]:=by rw[hT];rfl
 have cD:(T.map (·.1)).Nodup:=by rw[ba];decide
 have aS:(T.map (·.2.1)).Nodup:=by rw[cQ];decide
 obtain⟨b,hb⟩:∃b:Nat->D,b=bj [(1, .box 0 0),(2, .box 1 0),(4, .box 2 0),(6, .box 3 0),(7, .box 4 0),(8,i64 p),(25,i64 len),(26,i64 p)]:=⟨_,rfl⟩;rw[<-hb];have h0:aI (λ_=>false) (λ_=>false) T b=b:=gR (λ_ _=>rfl);rw[<-h0];refine la (c:=⟨ae,w0,S0,eG,none,own,β⟩) Tryz.ty.mixed rfl aj 48 T b (λL=>[.mu M0, .mu Z0, .mu C0, .mu [ints A,ints B], .mu [i64 W,bif L 17 then .own 0 else bif L 15 then .undef else .own 0]]) (λL=>[⟨true,3,1,bif L 15 then X++[i64 ((nth A p + nth B p).tdiv 2)]else X⟩]) (λL k op hC af hL aa=> ?_) (λL hL=> ?_);rotate_left
 ·have bu:∀x∈T.map (·.1),x < 18:=by rw[ba];decide
  rw[gS (λe he=>hL _ (bu _ (gP (f:=(·.1)) he)))];rw[hT,hb];have cz:L 15=true:=hL 15 ak;have fm:L 17=true:=hL 17 ak;simp only[bU,cz,fm];simp only[hT,bU,cond_true]at hQ;exact hQ
 match k,af,hL,aa with
 |0,af,hL,aa=>
  cases af;have cz:=au hC hL 15 [1] rfl;have fm:=au hC hL 17 [] rfl;have hX:=an cz (an fm hL);exact aA
 |1,af,hL,aa=>
  cases af;have d0:=aq aa 0 rfl;have cz:=au hC hL 15 [] rfl;have fm:=au hC hL 17 [] rfl;have hX:=an d0 (an cz (an fm hL));exact aA
 |2,af,hL,aa=>
  cases af;have cz:=au hC hL 15 [14,13,12,6,5,3] rfl;have fm:=au hC hL 17 [] rfl;have hX:=an cz (an fm hL);exact aA
 |3,af,hL,aa=>
  cases af;have d2:=aq aa 2 rfl;have cz:=au hC hL 15 [14,13,12,6,5] rfl;have fm:=au hC hL 17 [] rfl;have hX:=an d2 (an cz (an fm hL));exact aA
 |4,af,hL,aa=>
  cases af;have cz:=au hC hL 15 [14,13,12,6,5] rfl;have fm:=au hC hL 17 [] rfl;have hX:=an cz (an fm hL);exact aA
 |5,af,hL,aa=>
  cases af;have d3:=aq aa 3 rfl;have d4:=aq aa 4 rfl;have cz:=au hC hL 15 [14,13,12,6] rfl;have fm:=au hC hL 17 [] rfl;have hX:=an d3 (an d4 (an cz (an fm hL)));exact aA
 |6,af,hL,aa=>
  cases af;have d5:=aq aa 5 rfl;have cz:=au hC hL 15 [14,13,12] rfl;have fm:=au hC hL 17 [] rfl;have hX:=an d5 (an cz (an fm hL));exact aA
 |7,af,hL,aa=>
  cases af;have cz:=au hC hL 15 [14,13,12,11,10,8] rfl;have fm:=au hC hL 17 [] rfl;have hX:=an cz (an fm hL);exact aA
 |8,af,hL,aa=>
  cases af;have d7:=aq aa 7 rfl;have cz:=au hC hL 15 [14,13,12,11,10] rfl;have fm:=au hC hL 17 [] rfl;have hX:=an d7 (an cz (an fm hL));exact aA
 |9,af,hL,aa=>
  cases af;have cz:=au hC hL 15 [14,13,12,11,10] rfl;have fm:=au hC hL 17 [] rfl;have hX:=an cz (an fm hL);exact aA
 |10,af,hL,aa=>
  cases af;have d8:=aq aa 8 rfl;have d9:=aq aa 9 rfl;have cz:=au hC hL 15 [14,13,12,11] rfl;have fm:=au hC hL 17 [] rfl;have hX:=an d8 (an d9 (an cz (an fm hL)));exact aA
 |11,af,hL,aa=>
  cases af;have d10:=aq aa 10 rfl;have cz:=au hC hL 15 [14,13,12] rfl;have fm:=au hC hL 17 [] rfl;have hX:=an d10 (an cz (an fm hL));exact aA
 |12,af,hL,aa=>
  cases af;have d6:=aq aa 6 rfl;have d11:=aq aa 11 rfl;have cz:=au hC hL 15 [14,13] rfl;have fm:=au hC hL 17 [] rfl;have hX:=an d6 (an d11 (an cz (an fm hL)));exact aA
 |13,af,hL,aa=>
  cases af;have d12:=aq aa 12 rfl;have cz:=au hC hL 15 [14] rfl;have fm:=au hC hL 17 [] rfl;have hX:=an d12 (an cz (an fm hL));exact aA
 |14,af,hL,aa=>
  cases af;have d13:=aq aa 13 rfl;have cz:=au hC hL 15 [] rfl;have fm:=au hC hL 17 [] rfl;have hX:=an d13 (an cz (an fm hL));exact aA
 |15,af,hL,aa=>
  cases af;have d1:=aq aa 1 rfl;have d14:=aq aa 14 rfl;have cz:L 15=false:=hL;have fm:=au hC hL 17 [] rfl
  (
   have f30:=br (V:=L) (b:=b) d1 aS (show(1,30,λL=>bif L 15 then .undef else .own 0)∈T by rw[hT];simp);have f43:=br (V:=L) (b:=b) d14 aS (show(14,43,λL=> .list [i64 ((nth A p + nth B p).tdiv 2)])∈T by rw[hT];simp);have g15:more L 15 15=true:=rfl;have g17:more L 15 17=L 17:=rfl;have ek:aI (more L 15) (more L 15) T b=put (jz 0 (aI L L T b)) 44 (.own 0):=by
    refine(dM hL cD aS (show(15,44,λL=> .own 0)∈T by rw[hT];simp)).trans ?_;rw[mP (V:=L) (V':=more L 15) (by rw[hb];simp only[cG,cN,nM,nN];rfl) (by rw[hT];simp only[jf,fu,false_implies,implies_true,and_true];and_intros<;>(intro h;first|rfl|exact absurd (hL.symm.trans h) ak|(simp only[cz,fm,g15,g17,cond_true,cond_false];rfl)))]
   rw[ek];try simp only[cz,fm,g15,g17,cond_true,cond_false,bR,bQ,bN]
   try simp only[cz,fm,g15,g17,cond_true,cond_false,cG,cN,dN,put,Nat.reduceEqDiff,if_true,if_false,reduceIte]at f30 f43
   refine aZ.of ?_
   (refine sX (ai @f30 (ai @f43 (ai @hM0 (ai @hZ0 @hC0)))) ?_;try exact trivial)
   first|exact aO.of_eq rfl|exact⟨by assumption,aO.of_eq rfl⟩|exact⟨ag,ag,aO.of_eq rfl⟩|exact⟨ak,aO.of_eq rfl⟩|exact⟨_,rfl,rfl,aO.of_eq rfl⟩|exact⟨wk ag ag,aO.of_eq rfl⟩|(refine⟨?_, ?_⟩<;>first|exact aO.of_eq rfl|omega|rfl)|skip)
 |16,af,hL,aa=>
  cases af;have cz:=aq aa 15 rfl;have fm:=au hC hL 17 [] rfl;have hX:=an cz (an fm hL);exact aA
 |17,af,hL,aa=>
  cases af;have d15:=aq aa 15 rfl;have d16:=aq aa 16 rfl;have cz:=ca hC (aq aa 16 rfl) 15 [] rfl;have fm:L 17=false:=hL;have hX:=an d15 (an d16 (an cz (an fm hL)));exact aA
 |k + 18,af,hL,aa=>simp at af
def HY (W sl:Int)(S:List dJ)(q:Int):Int:=(lV W sl S q S.length + mc W sl S q S.length).tdiv 2
abbrev pS (W sl:Int)(S:List dJ)(n:Nat):List Int:=(dB n).map λ(q:Nat)=>HY W sl S (q:Int)
theorem aes (W sl:Int)(S:List dJ)(n:Nat):(pS W sl S (n + 1)).map (λ(x:Int)=>i64 x)=(pS W sl S n).map (λ(x:Int)=>i64 x)++[i64 (HY W sl S n)]:=by unfold pS;rw[List.range_succ,Co,Co];rfl
theorem Rm (W R:Nat)(sl:Int)(S:List dJ)(h:jH W R sl S)(hc:rb W sl S):ax ae 271 [.agg (eQ W R sl S)] (.aQ [.agg [i64 (W:Nat),ints (pS W sl S (W * R))],i64 0]):=by
 have hw:=h.w;have hr:=h.r;have h2:=EA h.w h.r;have c1:=aeK W R sl S h hc;have c2:=afF W R sl S h;obtain⟨A,hA⟩:∃A:List Int,A=(dB (W * R)).map λ(q:Nat)=>lV W sl S (q:Int) S.length:=⟨_,rfl⟩;obtain⟨B,hB⟩:∃B:List Int,B=(dB (W * R)).map λ(q:Nat)=>mc W sl S (q:Int) S.length:=⟨_,rfl⟩;have eA:D.list (nT W sl S (W * R))=ints A:=by rw[hA];simp[nT,Function.comp_def]
 have eB:D.list (qS W sl S (W * R))=ints B:=by rw[hB];simp[qS,Function.comp_def]
 rw[eA,eB]at c2;have lA:A.length=W * R:=by rw[hA];simp
 have lB:B.length=W * R:=by rw[hB];simp
 have nA:∀q,q < W * R->nth A q=lV W sl S (q:Nat) S.length:=λq hq=>by rw[hA];simp[nth,hq]
 have nB:∀q,q < W * R->nth B q=mc W sl S (q:Nat) S.length:=λq hq=>by rw[hB];simp[nth,hq]
 clear hA hB eA eB;refine aR func271 ntmps271 results271 call271 rfl ay λw0 S0 M0=> ?_;repeat'(first|(exact rfl)|(show az _ (.loop _) _ _;refine b_ ?_)|refine aB ?_|refine aC λK hK=> ?_|refine cA (c1) ?_|refine cA (c2) ?_|(refine kA ?_;clear hK K)|(intro hg;try exact aw)|exact fin|apply ai)
 refine cI ?_;refine tO 4 1 3 1 _ rfl rfl ?_;refine dH (ι:=Nat) (λp=>[(1, .box 0 0),(2, .box 1 0),(4, .box 2 0),(6, .box 3 0),(7, .box 4 0),(25,i64 (W * R:Nat)),(26,i64 (p:Nat))]) (λ_=>[.mu (eQ W R sl S), .mu [i64 0, .val (.slice none 0 0)], .mu (iG W R sl S), .mu [ints A,ints B], .mu [i64 (W:Nat), .own 0]]) (λp=>[⟨true,3,1,(pS W sl S p).map λ(x:Int)=>i64 x⟩])
  (λp=>p<=W * R) (λp=>W * R - p) (λ_ _=>⟨rfl,rfl⟩) 0 (cv _) (aV rfl (by try(refine av ?_;try exact trivial);simp[lA]) ⟨_,rfl⟩ ⟨[],rfl⟩) (λp hp=> ?_) (λ_ _=>cv _)
 by_cases aU:p < W * R
 ·have b1:=Gf h (p:=(p:Nat)) ag S.length (cx _);have b2:=Hf h (p:=(p:Nat)) ag S.length (cx _);have e1:=nA p aU;have e2:=nB p aU;have hs:=aes W sl S p;have hV:HY W sl S p=(nth A p + nth B p).tdiv 2:=by rw[e1,e2];rfl
  have hV2:0<=(nth A p + nth B p).tdiv 2/\(nth A p + nth B p).tdiv 2<=99999:=by
   rw[e1,e2,Int.tdiv_eq_ediv_of_nonneg ag];omega
  have G_:((pS W sl S p).map λ(x:Int)=>i64 x).length<=100:=by simp;omega
  rw[hV]at hs
  (refine av ?_;try exact trivial)
  repeat'(first|(show az _ (.region 9 _ true) _ _;refine b_ ?_)|refine aB ?_|refine aC λK hK=> ?_|(refine kA ?_;clear hK K)|(intro hg;try exact aw)|exact fin|apply ai)
  refine cI ?_;refine k_ (dD 48 [(1, .box 0 0),(2, .box 1 0),(4, .box 2 0),(6, .box 3 0),(7, .box 4 0),(8,i64 (p:Nat)),(25,i64 (W * R:Nat)),(26,i64 (p:Nat))] [.mu (eQ W R sl S), .mu [i64 0, .val (.slice none 0 0)], .mu (iG W R sl S), .mu [ints A,ints B], .mu [i64 (W:Nat), .own 0]] [⟨true,3,1,(pS W sl S p).map λ(x:Int)=>i64 x⟩]) (aV rfl (by simp[put]) ⟨[],rfl⟩ ⟨[],rfl⟩) (gT rfl rfl) (cv _) ?_;refine aer (by rfl) _ _ _ _ _ A B p W (W * R:Nat) (eQ W R sl S) [i64 0, .val (.slice none 0 0)] (iG W R sl S) ((pS W sl S p).map λ(x:Int)=>i64 x) rfl rfl rfl G_ ag ag (by rw[e1];omega) (by rw[e2];omega) hV2 ?_;simp only[bU,cond_true,dn,cF,<-hs];repeat'(first|refine aB ?_|refine aC λK hK=> ?_|(refine kA ?_;clear hK K)|(intro hg;try exact aw)|exact fin|apply ai)
  all_goals first|(exact⟨p + 1,ag,ag,aV rfl (by try(refine av ?_;try exact trivial);try simp) ⟨[],rfl⟩ ⟨[],rfl⟩⟩)|skip
 ·obtain rfl:p=W * R:=ag
  (refine av ?_;try exact trivial)
  repeat'(first|refine aB ?_|refine aC λK hK=> ?_|(refine kA ?_;clear hK K)|(intro hg;try exact aw)|exact fin|apply ai)
  all_goals skip
theorem ee.yA {c:Ctx}{ops:List Oper}{o:Oper}{s:St}{ι:Type}{ok:ι->Prop}{F:ι->St}(I:ι)(cO:ok I)(h:ee c ops o s (λs'=>aO c s' (F I))):ee c ops o s (λs'=>∃i',ok i'/\aO c s' (F i')):=
 λa w N' Q' hr hN=>h a w N' Q' hr λs a w hr hs=>hN s a w hr ⟨I,cO,hs⟩
theorem Nw {L V V':Nat->Bool}{p:Nat->Bool}{b:Nat->D}(hb:pT p b=b):∀{T:dX},(∀e∈T,L e.1=true->oc p (e.2.2 V)=e.2.2 V')->pT p (aI L V T b)=aI L V' T b
 |[],_=>hb
 |e::T,h=>by
  have h1:=h e (ey ..);have h2:=Nw (L:=L) hb λx hx=>h x (fE _ hx);simp only[aI];cases hL:L e.1 with
  |false=>simp only[cond_false];exact h2
  |true=>
   simp only[cond_true];rw[<-h2,<-h1 hL]
   funext q
   simp only[pT,put];split<;>rfl
theorem ZD {d:D}{r:Nat}(h:Names 0 0 d):d.oL r=false:=by
 have key:∀cs:List D,(∀d∈cs,d.oL r=false)->pE r cs=false:=λcs=>by
  induction cs with
  |nil=>intro _;rfl
  |cons d cs ih=>intro h;simp only[pE,Bool.or_eq_false_iff];exact⟨h d (ey ..),ih λx hx=>h x (fE _ hx)⟩
 induction h with
 |agg cs h ih=>exact key cs ih
 |aQ cs h ih=>exact key cs ih
 |aD f cs h ih=>exact key cs ih
 |dq f cs h ih=>exact key cs ih
 |own r h=>exact absurd h (fD _)
 |_=>rfl
theorem Aw {cs:List D}{r:Nat}(h:∀d∈cs,Names 0 0 d):cs.map (gI r)=cs:=by
 exact(re (g:=id) λd hd=>FM (ZD (h d hd))).trans (zJ _)
theorem Ru {p:Nat->Bool}:∀{l:List (Nat×D)},(l.all λe=> !(e.2.mb p))=true->pT p (bj l)=bj l
 |[],_=>funext λ_=>rfl
 |e::l,h=>by
  simp only[List.all_cons,Bool.and_eq_true,Bool.not_eq_true']at h;rw[cG,aeI,Ru h.2];unfold oc;rw[h.1]
theorem W5 {L:Nat->Bool}{k m:Nat}{v v':(Nat->Bool)->D}{b:Nat->D}{T0:dX}(hL:L k=false)(hn:k∉T0.map (·.1))(hv:∀e∈T0,e.2.2 L=e.2.2 (more L k)):
  aI (more L k) (more L k) ((k,m,v')::T0) b=put (aI L L ((k,m,v)::T0) b) m (v' (more L k)):=by
 simp only[aI,Gc,hL,cond_true,cond_false,yi hn];rw[eL hv]
theorem W4 {L:Nat->Bool}{k m:Nat}{v v':(Nat->Bool)->D}{b:Nat->D}{T0:dX}{p:Nat->Bool}(hL:L k=false)(hn:k∉T0.map (·.1))(hb:pT p b=b)(hv:∀e∈T0,L e.1=true->oc p (e.2.2 L)=e.2.2 (more L k)):
  aI (more L k) (more L k) ((k,m,v')::T0) b=put (pT p (aI L L ((k,m,v)::T0) b)) m (v' (more L k)):=by
 simp only[aI,Gc,hL,cond_true,cond_false,yi hn];rw[Nw hb hv]
theorem acU {d:D}:(flat [d]).length=d.cells.length:=by simp[flat]
def oM (s:bh)(n:Nat):List D:=flat (bP n (.agg (ew s)))
theorem O1 (s:bh)(n:Nat):(oM s n).length=n * 4:=by
 have:=o8 4 (bP n (D.agg (ew s))) (λz hz=>by rw[(xF.1 hz).2];rfl);simpa[oM]using this
theorem ZP (s:bh)(n:Nat):oM s (n + 1)=oM s n++ew s:=by
 unfold oM;rw[IX];simp[flat,D.cells]
theorem ZQ (s:bh)(n:Nat):∀d∈oM s n,Names 0 0 d:=λd hd=>by
 simp only[oM,flat,List.mem_flatMap,xF]at hd;obtain⟨x,⟨_,rfl⟩,hd⟩:=hd;simp only[D.cells,List.mem_cons,fu,or_false]at hd;rcases hd with rfl|rfl|rfl|rfl<;>constructor
def vr (s:bh)(n cap:Nat)(cs:List D):Prop:=cs.length=cap * 4/\n<=cap/\(∃U,cs=oM s n++U)/\∀d∈cs,Names 0 0 d
theorem Ze {ops:Array Oper}(cj:ops=dK Tryz.f26 7)(w0:World)(S0:Addr->Prop)(M0:MM)(own:Nat->Prop)(β:List Nat)(hβ:β.length=0)(s:bh)(j:Nat)(Z:List D)(hZ:Z.length<=100)(c7:ax ae 56 [fT s] (.agg (ew s)))
  {Q:Exit->St->Prop}(hQ:∀I:List D×Nat,(λ(L:Nat->Bool)=>L 9=true->vr s (1) I.2 I.1) (λ_=>true)->Q .normal ⟨43,((([(9,29,λL=> .a_ 3 0 1 I.2),(0,20,λL=> .box 2 0),(1,21,λL=> .box 2 0),(2,22,λL=> .box 2 0),(3,23,λL=> .box 2 0),(4,24,λL=> .box 2 25),(5,25,λL=> .val (.slice none 0 0)),(6,26,λL=>fT s),(7,27,λL=> .agg (ew s)),(8,28,λL=> .list [.agg (ew s)]),(10,30,λL=> .box 2 0),(11,31,λL=> .box 2 0),(12,32,λL=> .box 2 26),(13,33,λL=>bif L 16 then .undef else .own 0),(14,34,λL=> .any),(15,35,λL=> .list [.any]),(16,36,λL=> .own 0),(17,37,λL=> .box 2 0),(18,38,λL=> .box 2 25),(20,39,λL=> .box 2 0),(21,40,λL=> .box 2 26)]:dX).foldr (λe f=>put f e.2.1 (e.2.2 λ_=>true)) (bj [(1, .box 0 0),(5, .box 2 0),(17,i64 s.dy),(18,i64 j)]))),(λ(L:Nat->Bool)=>[.mu (cR s), .mp [], .mu (cR s++[bif L 19 then .a_ 3 0 1 I.2 else .val (.slice none 0 0),bif L 22 then .own 0 else bif L 16 then .undef else .own 0, .bz 1,i64 0, .own 1, .bool true])]++bif L 9 then[.mu I.1]else[]) (λ_=>true),(λ(L:Nat->Bool)=>[⟨true,132,1,bif L 16 then Z++[.any]else Z⟩,⟨true,186,1,[]⟩]) (λ_=>true)⟩):
  az ⟨ae,w0,S0,M0,none,own,β⟩ (.region 7 ops true) Q ⟨43,bj [(1, .box 0 0),(5, .box 2 0),(17,i64 s.dy),(18,i64 j)],(λ(I:List D×Nat) (L:Nat->Bool)=>[.mu (cR s), .mp [], .mu (cR s++[bif L 19 then .a_ 3 0 1 I.2 else .val (.slice none 0 0),bif L 22 then .own 0 else bif L 16 then .undef else .own 0, .bz 1,i64 0, .own 1, .bool true])]++bif L 9 then[.mu I.1]else[]) (([],0)) (λ_=>false),(λ(I:List D×Nat) (L:Nat->Bool)=>[⟨true,132,1,bif L 16 then Z++[.any]else Z⟩,⟨true,186,1,[]⟩]) (([],0)) (λ_=>false)⟩:=by
 simp only[dK,eW,fV,Tryz.f26,fB,Nat.reduceBEq,cJ,if_false,if_true,bQ,bN,bR,iy,reduceIte,eq_self]at cj;subst cj;obtain⟨T,hT⟩:∃T:List D×Nat->dX,T=λI=>[(9,29,λL=> .a_ 3 0 1 I.2),(0,20,λL=> .box 2 0),(1,21,λL=> .box 2 0),(2,22,λL=> .box 2 0),(3,23,λL=> .box 2 0),(4,24,λL=> .box 2 25),(5,25,λL=> .val (.slice none 0 0)),(6,26,λL=>fT s),(7,27,λL=> .agg (ew s)),(8,28,λL=> .list [.agg (ew s)]),(10,30,λL=> .box 2 0),(11,31,λL=> .box 2 0),(12,32,λL=> .box 2 26),(13,33,λL=>bif L 16 then .undef else .own 0),(14,34,λL=> .any),(15,35,λL=> .list [.any]),(16,36,λL=> .own 0),(17,37,λL=> .box 2 0),(18,38,λL=> .box 2 25),(20,39,λL=> .box 2 0),(21,40,λL=> .box 2 26)]:=⟨_,rfl⟩;have ba:∀I,(T I).map (·.1)=[9,0,1,2,3,4,5,6,7,8,10,11,12,13,14,15,16,17,18,20,21]:=λI=>by rw[hT];rfl
 have cQ:∀I,(T I).map (·.2.1)=[29,20,21,22,23,24,25,26,27,28,30,31,32,33,34,35,36,37,38,39,40]:=λI=>by rw[hT];rfl
 have cD:∀I,((T I).map (·.1)).Nodup:=λI=>by rw[ba];decide
 have aS:∀I,((T I).map (·.2.1)).Nodup:=λI=>by rw[cQ];decide
 obtain⟨b,hb⟩:∃b:Nat->D,b=bj [(1, .box 0 0),(5, .box 2 0),(17,i64 s.dy),(18,i64 j)]:=⟨_,rfl⟩;rw[<-hb];have h0:aI (λ_=>false) (λ_=>false) (T (([],0))) b=b:=gR (λ_ _=>rfl);rw[<-h0];refine SF (c:=⟨ae,w0,S0,M0,none,own,β⟩) (ι:=List D×Nat) Tryz.ty.mixed rfl aj 43 T b (λI L=>[.mu (cR s), .mp [], .mu (cR s++[bif L 19 then .a_ 3 0 1 I.2 else .val (.slice none 0 0),bif L 22 then .own 0 else bif L 16 then .undef else .own 0, .bz 1,i64 0, .own 1, .bool true])]++bif L 9 then[.mu I.1]else[]) (λI L=>[⟨true,132,1,bif L 16 then Z++[.any]else Z⟩,⟨true,186,1,[]⟩]) (λI L=>L 9=true->vr s (1) I.2 I.1) (([],0)) (by intro h;cases h) (λI L k op hC cO af hL aa=> ?_) (λI L cO hL=> ?_);rotate_left
 ·have bu:∀x∈(T I).map (·.1),x < 23:=by rw[ba];decide
  rw[gS (λe he=>hL _ (bu _ (gP (f:=(·.1)) he)))];rw[hT,hb];have e9:L 9=true:=hL 9 ak;have aM:L 16=true:=hL 16 ak;have aX:L 19=true:=hL 19 ak;have a6:L 22=true:=hL 22 ak;have hQ:=hQ I (by simpa[e9,aM,aX,a6]using cO);simp only[bU,e9,aM,aX,a6];simp only[bU,cond_true]at hQ;exact hQ
 obtain⟨TI,o0⟩:∃TI:dX,TI=T I:=⟨_,rfl⟩;have iL:TI=[(9,29,λL=> .a_ 3 0 1 I.2),(0,20,λL=> .box 2 0),(1,21,λL=> .box 2 0),(2,22,λL=> .box 2 0),(3,23,λL=> .box 2 0),(4,24,λL=> .box 2 25),(5,25,λL=> .val (.slice none 0 0)),(6,26,λL=>fT s),(7,27,λL=> .agg (ew s)),(8,28,λL=> .list [.agg (ew s)]),(10,30,λL=> .box 2 0),(11,31,λL=> .box 2 0),(12,32,λL=> .box 2 26),(13,33,λL=>bif L 16 then .undef else .own 0),(14,34,λL=> .any),(15,35,λL=> .list [.any]),(16,36,λL=> .own 0),(17,37,λL=> .box 2 0),(18,38,λL=> .box 2 25),(20,39,λL=> .box 2 0),(21,40,λL=> .box 2 26)]:=by rw[o0,hT]
 have Hb:=ba I;have Ha:=cQ I;have sY:=cD I;have ku:=aS I;rw[<-o0]at Hb Ha sY ku
 match k,af,hL,aa with
 |0,af,hL,aa=>
  cases af;have aX:=au hC hL 19 [] rfl;have a6:=au hC hL 22 [] rfl;have jl:=λ(h:L 16=true)=>ca hC h 9 [] rfl;clear hC aa;revert jl;rcases bO (L 9)with e9|e9<;>rcases bO (L 16)with aM|aM<;>intro jl<;>first|(have:=jl aM;rw[e9]at this;exact absurd this ak)|skip
  all_goals(have hX:=an aX (an a6 (an e9 (an aM hL)));exact fJ)
 |1,af,hL,aa=>
  cases af;have a6:=au hC hL 22 [] rfl;have jl:=λ(h:L 16=true)=>ca hC h 9 [] rfl;have qD:=λ(h:L 19=true)=>ca hC h 9 [] rfl;have qE:=λ(h:L 19=true)=>ca hC h 16 [] rfl;clear hC aa;revert jl qD qE;rcases bO (L 9)with e9|e9<;>rcases bO (L 16)with aM|aM<;>rcases bO (L 19)with aX|aX<;>intro jl qD qE<;>first|(have:=jl aM;rw[e9]at this;exact absurd this ak)|(have:=qD aX;rw[e9]at this;exact absurd this ak)|(have:=qE aX;rw[aM]at this;exact absurd this ak)|skip
  all_goals(have hX:=an a6 (an e9 (an aM (an aX hL)));exact fJ)
 |2,af,hL,aa=>
  cases af;have e9:=au hC hL 9 [5,4,3] rfl;have aM:=au hC hL 16 [9,5,4,3] rfl;have aX:=au hC hL 19 [] rfl;have a6:=au hC hL 22 [] rfl;have hX:=an e9 (an aM (an aX (an a6 hL)));exact fJ
 |3,af,hL,aa=>
  cases af;have d2:=aq aa 2 rfl;have e9:=au hC hL 9 [5,4] rfl;have aM:=au hC hL 16 [9,5,4] rfl;have aX:=au hC hL 19 [] rfl;have a6:=au hC hL 22 [] rfl;have hX:=an d2 (an e9 (an aM (an aX (an a6 hL))));exact fJ
 |4,af,hL,aa=>
  cases af;have d3:=aq aa 3 rfl;have e9:=au hC hL 9 [5] rfl;have aM:=au hC hL 16 [9,5] rfl;have aX:=au hC hL 19 [] rfl;have a6:=au hC hL 22 [] rfl;have hX:=an d3 (an e9 (an aM (an aX (an a6 hL))));exact fJ
 |5,af,hL,aa=>
  cases af;have d4:=aq aa 4 rfl;have e9:=au hC hL 9 [] rfl;have aM:=au hC hL 16 [9] rfl;have aX:=au hC hL 19 [] rfl;have a6:=au hC hL 22 [] rfl;have hX:=an d4 (an e9 (an aM (an aX (an a6 hL))));exact fJ
 |6,af,hL,aa=>
  cases af;have e9:=au hC hL 9 [7] rfl;have aM:=au hC hL 16 [9,7] rfl;have aX:=au hC hL 19 [] rfl;have a6:=au hC hL 22 [] rfl;have hX:=an e9 (an aM (an aX (an a6 hL)));exact fJ
 |7,af,hL,aa=>
  cases af;have d6:=aq aa 6 rfl;have e9:=au hC hL 9 [] rfl;have aM:=au hC hL 16 [9] rfl;have aX:=au hC hL 19 [] rfl;have a6:=au hC hL 22 [] rfl
  (
   refine ee.yA I (λh=>cO (by simpa[more]using h)) ?_;try simp only[]
   rw[<-o0];have f26:=br (V:=L) (b:=b) d6 ku (show(6,26,λL=>fT s)∈TI by rw[iL];simp);have g9:more L 7 9=L 9:=rfl;have g16:more L 7 16=L 16:=rfl;have g19:more L 7 19=L 19:=rfl;have g22:more L 7 22=L 22:=rfl;have ek:aI (more L 7) (more L 7) TI b=put (aI L L TI b) 27 (.agg (ew s)):=(dM hL sY ku (show(7,27,λL=> .agg (ew s))∈TI by rw[iL];simp)).trans (by rw[<-eL (V:=L) (V':=more L 7) (by rw[iL];simp[more])];try rfl);rw[ek];try simp only[e9,aM,aX,a6,g9,g16,g19,g22,cond_true,cond_false,bR,bQ,bN]
   try simp only[e9,aM,aX,a6,g9,g16,g19,g22,cond_true,cond_false,cG,cN,dN,put,Nat.reduceEqDiff,if_true,if_false,reduceIte]at f26
   refine ee.j4 rfl ?_;refine aZ.rE rfl ?_
   (refine sX @f26 ?_;try exact trivial)
   refine bl c7 ?_
   (refine av ?_;try exact trivial)
   exact aO.of_eq rfl)
 |8,af,hL,aa=>
  cases af;have d7:=aq aa 7 rfl;have e9:=au hC hL 9 [] rfl;have aM:=au hC hL 16 [9] rfl;have aX:=au hC hL 19 [] rfl;have a6:=au hC hL 22 [] rfl;have hX:=an d7 (an e9 (an aM (an aX (an a6 hL))));exact fJ
 |9,af,hL,aa=>
  cases af;have d5:=aq aa 5 rfl;have d8:=aq aa 8 rfl;have e9:L 9=false:=hL;have aM:=au hC hL 16 [] rfl;have aX:=au hC hL 19 [] rfl;have a6:=au hC hL 22 [] rfl
  (
   have f25:=br (V:=L) (b:=b) d5 ku (show(5,25,λL=> .val (.slice none 0 0))∈TI by rw[iL];simp);have f28:=br (V:=L) (b:=b) d8 ku (show(8,28,λL=> .list [.agg (ew s)])∈TI by rw[iL];simp);have g9:more L 9 9=true:=rfl;have g16:more L 9 16=L 16:=rfl;have g19:more L 9 19=L 19:=rfl;have g22:more L 9 22=L 22:=rfl;refine ee.j4 rfl ?_;rw[<-o0];have t1:Go.Ab.elemOf ae 126=some 58:=aj;have t2:aJ ae 58=4:=aj;have t3:(bX ae 58).isSome=true:=aj;have t4:bytesOf ae 58=48:=aj;try simp only[e9,aM,aX,a6,g9,g16,g19,g22,cond_true,cond_false,bN,bR,bQ]at f25 f28⊢
   refine aZ.Zy f25 (aZ.aem ⟨by show(29:Nat) < 43;decide, ?_⟩);rw[t1];show aJ ae 58≠0/\(bX ae 58).isSome=true/\lM _ (aI L L TI b 28) _;rw[f28,t2];refine⟨ak,t3,λy hy=>by rw[xE.1 hy];rfl,by simp,by simp,by rw[t4];simp,λeT U cap h1 h2 hU=> ?_⟩;refine⟨(flat [.agg (ew s)]++U,cap),λ_=>⟨by simp only[ia,acU];exact h2,h1,⟨U,rfl⟩,λd hd=>(gY.1 hd).elim (eT d) (hU d)⟩, ?_⟩;have e1:aI (more L 9) (more L 9) (T (flat [.agg (ew s)]++U,cap)) b=put (aI L L TI b) 29 (.a_ 3 0 1 cap):=by
    rw[hT,iL];exact W5 hL ay (by simp[more])
   rw[e1];try simp only[e9,aM,aX,a6,g9,g16,g19,g22,cond_true,cond_false,bN,bR,bQ]
   exact aO.of_eq rfl)
 |10,af,hL,aa=>
  cases af;have aM:=au hC hL 16 [13,12,11] rfl;have aX:=au hC hL 19 [13,12,11] rfl;have a6:=au hC hL 22 [] rfl;clear hC aa;rcases bO (L 9)with e9|e9;all_goals(have hX:=an aM (an aX (an a6 (an e9 hL)));exact fJ)
 |11,af,hL,aa=>
  cases af;have d10:=aq aa 10 rfl;have aM:=au hC hL 16 [13,12] rfl;have aX:=au hC hL 19 [13,12] rfl;have a6:=au hC hL 22 [] rfl;clear hC aa;rcases bO (L 9)with e9|e9;all_goals(have hX:=an d10 (an aM (an aX (an a6 (an e9 hL))));exact fJ)
 |12,af,hL,aa=>
  cases af;have d11:=aq aa 11 rfl;have aM:=au hC hL 16 [13] rfl;have aX:=au hC hL 19 [13] rfl;have a6:=au hC hL 22 [] rfl;clear hC aa;rcases bO (L 9)with e9|e9;all_goals(have hX:=an d11 (an aM (an aX (an a6 (an e9 hL))));exact fJ)
 |13,af,hL,aa=>
  cases af;have d12:=aq aa 12 rfl;have aM:=au hC hL 16 [] rfl;have aX:=au hC hL 19 [] rfl;have a6:=au hC hL 22 [] rfl;clear hC aa;rcases bO (L 9)with e9|e9;all_goals(have hX:=an d12 (an aM (an aX (an a6 (an e9 hL))));exact fJ)
 |14,af,hL,aa=>
  cases af;have aM:=au hC hL 16 [15] rfl;have aX:=au hC hL 19 [16,15] rfl;have a6:=au hC hL 22 [] rfl;clear hC aa;rcases bO (L 9)with e9|e9;all_goals(
   refine ee.yA I (λh=>cO (by simpa[more]using h)) ?_;try simp only[]
   rw[<-o0];have g9:more L 14 9=L 9:=rfl;have g16:more L 14 16=L 16:=rfl;have g19:more L 14 19=L 19:=rfl;have g22:more L 14 22=L 22:=rfl;have ek:aI (more L 14) (more L 14) TI b=put (aI L L TI b) 34 (.any):=(dM hL sY ku (show(14,34,λL=> .any)∈TI by rw[iL];simp)).trans (by rw[<-eL (V:=L) (V':=more L 14) (by rw[iL];simp[more])];try rfl);rw[ek];try simp only[e9,aM,aX,a6,g9,g16,g19,g22,cond_true,cond_false,bR,bQ,bN]
   skip
   refine ee.j4 rfl ?_;refine aZ.Sl 34 ?_ ?_
   ·(refine av ?_;try exact trivial)
   ·exact aO.of_eq rfl)
 |15,af,hL,aa=>
  cases af;have d14:=aq aa 14 rfl;have aM:=au hC hL 16 [] rfl;have aX:=au hC hL 19 [16] rfl;have a6:=au hC hL 22 [] rfl;clear hC aa;rcases bO (L 9)with e9|e9;all_goals(have hX:=an d14 (an aM (an aX (an a6 (an e9 hL))));exact fJ)
 |16,af,hL,aa=>
  cases af;have d13:=aq aa 13 rfl;have d15:=aq aa 15 rfl;have e9:=aq aa 9 rfl;have aM:L 16=false:=hL;have aX:=au hC hL 19 [] rfl;have a6:=au hC hL 22 [] rfl
  (
   refine ee.yA I (λh=>cO (by simpa[more]using h)) ?_;try simp only[]
   rw[<-o0];have f33:=br (V:=L) (b:=b) d13 ku (show(13,33,λL=>bif L 16 then .undef else .own 0)∈TI by rw[iL];simp);have f35:=br (V:=L) (b:=b) d15 ku (show(15,35,λL=> .list [.any])∈TI by rw[iL];simp);have g9:more L 16 9=L 9:=rfl;have g16:more L 16 16=true:=rfl;have g19:more L 16 19=L 19:=rfl;have g22:more L 16 22=L 22:=rfl;have ek:aI (more L 16) (more L 16) TI b=put (jz 0 (aI L L TI b)) 36 (.own 0):=by
    refine(dM hL sY ku (show(16,36,λL=> .own 0)∈TI by rw[iL];simp)).trans ?_;rw[mP (V:=L) (V':=more L 16) (by rw[hb];simp only[cG,cN,nM,nN];rfl) (by rw[iL];simp only[jf,fu,false_implies,implies_true,and_true];and_intros<;>(intro h;first|rfl|exact absurd (hL.symm.trans h) ak|(simp only[e9,aM,aX,a6,g9,g16,g19,g22,cond_true,cond_false];rfl)))]
   rw[ek];try simp only[e9,aM,aX,a6,g9,g16,g19,g22,cond_true,cond_false,bR,bQ,bN]
   try simp only[e9,aM,aX,a6,g9,g16,g19,g22,cond_true,cond_false,cG,cN,dN,put,Nat.reduceEqDiff,if_true,if_false,reduceIte]at f33 f35
   refine ee.j4 rfl ?_;refine aZ.of ?_
   (refine sX (ai @f33 @f35) ?_;try exact trivial)
   refine⟨ag,ag,aO.of_eq ?_⟩;rw[Aw (cO e9).2.2.2])
 |17,af,hL,aa=>
  cases af;have d0:=aq aa 0 rfl;have e9:=aq aa 9 rfl;have aM:=aq aa 16 rfl;have aX:=au hC hL 19 [18] rfl;have a6:=au hC hL 22 [] rfl;have hX:=an d0 (an e9 (an aM (an aX (an a6 hL))));exact fJ
 |18,af,hL,aa=>
  cases af;have d17:=aq aa 17 rfl;have e9:=ca hC (aq aa 17 rfl) 9 [] rfl;have aM:=ca hC (aq aa 17 rfl) 16 [] rfl;have aX:=au hC hL 19 [] rfl;have a6:=au hC hL 22 [] rfl;have hX:=an d17 (an e9 (an aM (an aX (an a6 hL))));exact fJ
 |19,af,hL,aa=>
  cases af;have d9:=aq aa 9 rfl;have d18:=aq aa 18 rfl;have e9:=ca hC (aq aa 18 rfl) 9 [] rfl;have aM:=ca hC (aq aa 18 rfl) 16 [] rfl;have aX:L 19=false:=hL;have a6:=au hC hL 22 [] rfl;have hX:=an d9 (an d18 (an e9 (an aM (an aX (an a6 hL)))));exact fJ
 |20,af,hL,aa=>
  cases af;have d1:=aq aa 1 rfl;have e9:=aq aa 9 rfl;have aM:=aq aa 16 rfl;have aX:=aq aa 19 rfl;have a6:=au hC hL 22 [21] rfl;have hX:=an d1 (an e9 (an aM (an aX (an a6 hL))));exact fJ
 |21,af,hL,aa=>
  cases af;have d20:=aq aa 20 rfl;have e9:=ca hC (aq aa 20 rfl) 9 [] rfl;have aM:=ca hC (aq aa 20 rfl) 16 [] rfl;have aX:=ca hC (aq aa 20 rfl) 19 [] rfl;have a6:=au hC hL 22 [] rfl;have hX:=an d20 (an e9 (an aM (an aX (an a6 hL))));exact fJ
 |22,af,hL,aa=>
  cases af;have d16:=aq aa 16 rfl;have d21:=aq aa 21 rfl;have e9:=ca hC (aq aa 21 rfl) 9 [] rfl;have aM:=ca hC (aq aa 21 rfl) 16 [] rfl;have aX:=ca hC (aq aa 21 rfl) 19 [] rfl;have a6:L 22=false:=hL;have hX:=an d16 (an d21 (an e9 (an aM (an aX (an a6 hL)))));exact fJ
 |k + 23,af,hL,aa=>simp at af
theorem Zf {ops:Array Oper}(cj:ops=dK Tryz.f26 7)(w0:World)(S0:Addr->Prop)(M0:MM)(own:Nat->Prop)(β:List Nat)(hβ:β.length=0)(s:bh)(j:Nat)(Z:List D)(hZ:Z.length<=100)(c7:ax ae 56 [fT s] (.agg (ew s)))(hj:j<=100)(iF:List D)(tM:Nat)(hM:vr s j tM iF)
  {Q:Exit->St->Prop}(hQ:∀I:List D×Nat,(λ(L:Nat->Bool)=>L 9=true->vr s (j + 1) I.2 I.1) (λ_=>true)->Q .normal ⟨43,((([(9,29,λL=> .a_ 3 0 (j + 1) I.2),(0,20,λL=> .box 2 0),(1,21,λL=> .box 2 0),(2,22,λL=> .box 2 0),(3,23,λL=> .box 2 0),(4,24,λL=> .box 2 25),(5,25,λL=>bif L 9 then .undef else .a_ 3 0 j tM),(6,26,λL=>fT s),(7,27,λL=> .agg (ew s)),(8,28,λL=> .list [.agg (ew s)]),(10,30,λL=> .box 2 0),(11,31,λL=> .box 2 0),(12,32,λL=> .box 2 26),(13,33,λL=>bif L 16 then .undef else .own 0),(14,34,λL=> .any),(15,35,λL=> .list [.any]),(16,36,λL=> .own 0),(17,37,λL=> .box 2 0),(18,38,λL=> .box 2 25),(20,39,λL=> .box 2 0),(21,40,λL=> .box 2 26)]:dX).foldr (λe f=>put f e.2.1 (e.2.2 λ_=>true)) (bj [(1, .box 0 0),(5, .box 2 0),(17,i64 s.dy),(18,i64 j)]))),(λ(L:Nat->Bool)=>[.mu (cR s), .mp [], .mu (cR s++[bif L 19 then .a_ 3 0 (j + 1) I.2 else bif L 9 then .undef else .a_ 3 0 j tM,bif L 22 then .own 0 else bif L 16 then .undef else .own 0, .bz 1,i64 0, .own 1, .bool true]), .mu (bif L 9 then I.1 else iF)]) (λ_=>true),(λ(L:Nat->Bool)=>[⟨true,132,1,bif L 16 then Z++[.any]else Z⟩,⟨true,186,1,[]⟩]) (λ_=>true)⟩):
  az ⟨ae,w0,S0,M0,none,own,β⟩ (.region 7 ops true) Q ⟨43,bj [(1, .box 0 0),(5, .box 2 0),(17,i64 s.dy),(18,i64 j)],(λ(I:List D×Nat) (L:Nat->Bool)=>[.mu (cR s), .mp [], .mu (cR s++[bif L 19 then .a_ 3 0 (j + 1) I.2 else bif L 9 then .undef else .a_ 3 0 j tM,bif L 22 then .own 0 else bif L 16 then .undef else .own 0, .bz 1,i64 0, .own 1, .bool true]), .mu (bif L 9 then I.1 else iF)]) (([],0)) (λ_=>false),(λ(I:List D×Nat) (L:Nat->Bool)=>[⟨true,132,1,bif L 16 then Z++[.any]else Z⟩,⟨true,186,1,[]⟩]) (([],0)) (λ_=>false)⟩:=by
 simp only[dK,eW,fV,Tryz.f26,fB,Nat.reduceBEq,cJ,if_false,if_true,bQ,bN,bR,iy,reduceIte,eq_self]at cj;subst cj;obtain⟨T,hT⟩:∃T:List D×Nat->dX,T=λI=>[(9,29,λL=> .a_ 3 0 (j + 1) I.2),(0,20,λL=> .box 2 0),(1,21,λL=> .box 2 0),(2,22,λL=> .box 2 0),(3,23,λL=> .box 2 0),(4,24,λL=> .box 2 25),(5,25,λL=>bif L 9 then .undef else .a_ 3 0 j tM),(6,26,λL=>fT s),(7,27,λL=> .agg (ew s)),(8,28,λL=> .list [.agg (ew s)]),(10,30,λL=> .box 2 0),(11,31,λL=> .box 2 0),(12,32,λL=> .box 2 26),(13,33,λL=>bif L 16 then .undef else .own 0),(14,34,λL=> .any),(15,35,λL=> .list [.any]),(16,36,λL=> .own 0),(17,37,λL=> .box 2 0),(18,38,λL=> .box 2 25),(20,39,λL=> .box 2 0),(21,40,λL=> .box 2 26)]:=⟨_,rfl⟩;have ba:∀I,(T I).map (·.1)=[9,0,1,2,3,4,5,6,7,8,10,11,12,13,14,15,16,17,18,20,21]:=λI=>by rw[hT];rfl
 have cQ:∀I,(T I).map (·.2.1)=[29,20,21,22,23,24,25,26,27,28,30,31,32,33,34,35,36,37,38,39,40]:=λI=>by rw[hT];rfl
 have cD:∀I,((T I).map (·.1)).Nodup:=λI=>by rw[ba];decide
 have aS:∀I,((T I).map (·.2.1)).Nodup:=λI=>by rw[cQ];decide
 obtain⟨b,hb⟩:∃b:Nat->D,b=bj [(1, .box 0 0),(5, .box 2 0),(17,i64 s.dy),(18,i64 j)]:=⟨_,rfl⟩;rw[<-hb];have h0:aI (λ_=>false) (λ_=>false) (T (([],0))) b=b:=gR (λ_ _=>rfl);rw[<-h0];refine SF (c:=⟨ae,w0,S0,M0,none,own,β⟩) (ι:=List D×Nat) Tryz.ty.mixed rfl aj 43 T b (λI L=>[.mu (cR s), .mp [], .mu (cR s++[bif L 19 then .a_ 3 0 (j + 1) I.2 else bif L 9 then .undef else .a_ 3 0 j tM,bif L 22 then .own 0 else bif L 16 then .undef else .own 0, .bz 1,i64 0, .own 1, .bool true]), .mu (bif L 9 then I.1 else iF)]) (λI L=>[⟨true,132,1,bif L 16 then Z++[.any]else Z⟩,⟨true,186,1,[]⟩]) (λI L=>L 9=true->vr s (j + 1) I.2 I.1) (([],0)) (by intro h;cases h) (λI L k op hC cO af hL aa=> ?_) (λI L cO hL=> ?_);rotate_left
 ·have bu:∀x∈(T I).map (·.1),x < 23:=by rw[ba];decide
  rw[gS (λe he=>hL _ (bu _ (gP (f:=(·.1)) he)))];rw[hT,hb];have e9:L 9=true:=hL 9 ak;have aM:L 16=true:=hL 16 ak;have aX:L 19=true:=hL 19 ak;have a6:L 22=true:=hL 22 ak;have hQ:=hQ I (by simpa[e9,aM,aX,a6]using cO);simp only[bU,e9,aM,aX,a6];simp only[bU,cond_true]at hQ;exact hQ
 obtain⟨TI,o0⟩:∃TI:dX,TI=T I:=⟨_,rfl⟩;have iL:TI=[(9,29,λL=> .a_ 3 0 (j + 1) I.2),(0,20,λL=> .box 2 0),(1,21,λL=> .box 2 0),(2,22,λL=> .box 2 0),(3,23,λL=> .box 2 0),(4,24,λL=> .box 2 25),(5,25,λL=>bif L 9 then .undef else .a_ 3 0 j tM),(6,26,λL=>fT s),(7,27,λL=> .agg (ew s)),(8,28,λL=> .list [.agg (ew s)]),(10,30,λL=> .box 2 0),(11,31,λL=> .box 2 0),(12,32,λL=> .box 2 26),(13,33,λL=>bif L 16 then .undef else .own 0),(14,34,λL=> .any),(15,35,λL=> .list [.any]),(16,36,λL=> .own 0),(17,37,λL=> .box 2 0),(18,38,λL=> .box 2 25),(20,39,λL=> .box 2 0),(21,40,λL=> .box 2 26)]:=by rw[o0,hT]
 have Hb:=ba I;have Ha:=cQ I;have sY:=cD I;have ku:=aS I;rw[<-o0]at Hb Ha sY ku
 match k,af,hL,aa with
 |0,af,hL,aa=>
  cases af;have aX:=au hC hL 19 [] rfl;have a6:=au hC hL 22 [] rfl;have jl:=λ(h:L 16=true)=>ca hC h 9 [] rfl;clear hC aa;revert jl;rcases bO (L 9)with e9|e9<;>rcases bO (L 16)with aM|aM<;>intro jl<;>first|(have:=jl aM;rw[e9]at this;exact absurd this ak)|skip
  all_goals(have hX:=an aX (an a6 (an e9 (an aM hL)));exact fJ)
 |1,af,hL,aa=>
  cases af;have a6:=au hC hL 22 [] rfl;have jl:=λ(h:L 16=true)=>ca hC h 9 [] rfl;have qD:=λ(h:L 19=true)=>ca hC h 9 [] rfl;have qE:=λ(h:L 19=true)=>ca hC h 16 [] rfl;clear hC aa;revert jl qD qE;rcases bO (L 9)with e9|e9<;>rcases bO (L 16)with aM|aM<;>rcases bO (L 19)with aX|aX<;>intro jl qD qE<;>first|(have:=jl aM;rw[e9]at this;exact absurd this ak)|(have:=qD aX;rw[e9]at this;exact absurd this ak)|(have:=qE aX;rw[aM]at this;exact absurd this ak)|skip
  all_goals(have hX:=an a6 (an e9 (an aM (an aX hL)));exact fJ)
 |2,af,hL,aa=>
  cases af;have e9:=au hC hL 9 [5,4,3] rfl;have aM:=au hC hL 16 [9,5,4,3] rfl;have aX:=au hC hL 19 [] rfl;have a6:=au hC hL 22 [] rfl;have hX:=an e9 (an aM (an aX (an a6 hL)));exact fJ
 |3,af,hL,aa=>
  cases af;have d2:=aq aa 2 rfl;have e9:=au hC hL 9 [5,4] rfl;have aM:=au hC hL 16 [9,5,4] rfl;have aX:=au hC hL 19 [] rfl;have a6:=au hC hL 22 [] rfl;have hX:=an d2 (an e9 (an aM (an aX (an a6 hL))));exact fJ
 |4,af,hL,aa=>
  cases af;have d3:=aq aa 3 rfl;have e9:=au hC hL 9 [5] rfl;have aM:=au hC hL 16 [9,5] rfl;have aX:=au hC hL 19 [] rfl;have a6:=au hC hL 22 [] rfl;have hX:=an d3 (an e9 (an aM (an aX (an a6 hL))));exact fJ
 |5,af,hL,aa=>
  cases af;have d4:=aq aa 4 rfl;have e9:=au hC hL 9 [] rfl;have aM:=au hC hL 16 [9] rfl;have aX:=au hC hL 19 [] rfl;have a6:=au hC hL 22 [] rfl;have hX:=an d4 (an e9 (an aM (an aX (an a6 hL))));exact fJ
 |6,af,hL,aa=>
  cases af;have e9:=au hC hL 9 [7] rfl;have aM:=au hC hL 16 [9,7] rfl;have aX:=au hC hL 19 [] rfl;have a6:=au hC hL 22 [] rfl;have hX:=an e9 (an aM (an aX (an a6 hL)));exact fJ
 |7,af,hL,aa=>
  cases af;have d6:=aq aa 6 rfl;have e9:=au hC hL 9 [] rfl;have aM:=au hC hL 16 [9] rfl;have aX:=au hC hL 19 [] rfl;have a6:=au hC hL 22 [] rfl
  (
   refine ee.yA I (λh=>cO (by simpa[more]using h)) ?_;try simp only[]
   rw[<-o0];have f26:=br (V:=L) (b:=b) d6 ku (show(6,26,λL=>fT s)∈TI by rw[iL];simp);have g9:more L 7 9=L 9:=rfl;have g16:more L 7 16=L 16:=rfl;have g19:more L 7 19=L 19:=rfl;have g22:more L 7 22=L 22:=rfl;have ek:aI (more L 7) (more L 7) TI b=put (aI L L TI b) 27 (.agg (ew s)):=(dM hL sY ku (show(7,27,λL=> .agg (ew s))∈TI by rw[iL];simp)).trans (by rw[<-eL (V:=L) (V':=more L 7) (by rw[iL];simp[more])];try rfl);rw[ek];try simp only[e9,aM,aX,a6,g9,g16,g19,g22,cond_true,cond_false,bR,bQ,bN]
   try simp only[e9,aM,aX,a6,g9,g16,g19,g22,cond_true,cond_false,cG,cN,dN,put,Nat.reduceEqDiff,if_true,if_false,reduceIte]at f26
   refine ee.j4 rfl ?_;refine aZ.rE rfl ?_
   (refine sX @f26 ?_;try exact trivial)
   refine bl c7 ?_
   (refine av ?_;try exact trivial)
   exact aO.of_eq rfl)
 |8,af,hL,aa=>
  cases af;have d7:=aq aa 7 rfl;have e9:=au hC hL 9 [] rfl;have aM:=au hC hL 16 [9] rfl;have aX:=au hC hL 19 [] rfl;have a6:=au hC hL 22 [] rfl;have hX:=an d7 (an e9 (an aM (an aX (an a6 hL))));exact fJ
 |9,af,hL,aa=>
  cases af;have d5:=aq aa 5 rfl;have d8:=aq aa 8 rfl;have e9:L 9=false:=hL;have aM:=au hC hL 16 [] rfl;have aX:=au hC hL 19 [] rfl;have a6:=au hC hL 22 [] rfl
  (
   have f25:=br (V:=L) (b:=b) d5 ku (show(5,25,λL=>bif L 9 then .undef else .a_ 3 0 j tM)∈TI by rw[iL];simp);have f28:=br (V:=L) (b:=b) d8 ku (show(8,28,λL=> .list [.agg (ew s)])∈TI by rw[iL];simp);have g9:more L 9 9=true:=rfl;have g16:more L 9 16=L 16:=rfl;have g19:more L 9 19=L 19:=rfl;have g22:more L 9 22=L 22:=rfl;refine ee.j4 rfl ?_;rw[<-o0];have t1:Go.Ab.elemOf ae 126=some 58:=aj;have t2:aJ ae 58=4:=aj;have t3:(bX ae 58).isSome=true:=aj;have t4:bytesOf ae 58=48:=aj;try simp only[e9,aM,aX,a6,g9,g16,g19,g22,cond_true,cond_false,bN,bR,bQ]at f25 f28⊢
   obtain⟨a1,a2,⟨U0,a3⟩,a4⟩:=hM;refine aZ.grow ⟨by show(29:Nat) < 43;decide, ?_⟩;rw[t1];show aJ ae 58≠0/\(bX ae 58).isSome=true/\lM _ (aI L L TI b 28) _;rw[f28,t2];refine⟨ak,t3,λy hy=>by rw[xE.1 hy];rfl,by simp,3,j,tM,iF,f25,rfl,by show β.length<=3;omega,a1,a2,by simp;omega,by rw[t4];simp;omega,a4,λU cap h1 h2 hU=> ?_⟩;have gV:flat [(.agg (ew s):D)]=ew s:=by simp[flat,D.cells]
   have aE:iF.take (j * 4)++flat [.agg (ew s)]++U=oM s (j + 1)++U:=by rw[a3,List.take_left' (O1 s j),ZP,gV]
   refine⟨(oM s (j + 1)++U,cap),λ_=>⟨by rw[ia,O1];simpa using h2,by simpa using h1,⟨U,rfl⟩,λd hd=>(gY.1 hd).elim (ZQ s _ d) (hU d)⟩, ?_⟩;have e1:aI (more L 9) (more L 9) (T (oM s (j + 1)++U,cap)) b=put (pT (λq=>q == 3||decide (4<=q)) (aI L L TI b)) 29 (.a_ 3 0 (j + 1) cap):=by
    rw[hT,iL];exact W4 hL ay (by rw[hb];exact Ru rfl) (by simp only[jf,fu,false_implies,implies_true,and_true,e9,aM,g9,g16,cond_true,cond_false];(repeat' apply ai)<;>exact λ_=>rfl)
   rw[e1];try simp only[e9,aM,aX,a6,g9,g16,g19,g22,cond_true,cond_false,bN,bR,bQ]
   rw[aE];exact aO.of_eq rfl)
 |10,af,hL,aa=>
  cases af;have aM:=au hC hL 16 [13,12,11] rfl;have aX:=au hC hL 19 [13,12,11] rfl;have a6:=au hC hL 22 [] rfl;clear hC aa;rcases bO (L 9)with e9|e9;all_goals(have hX:=an aM (an aX (an a6 (an e9 hL)));exact fJ)
 |11,af,hL,aa=>
  cases af;have d10:=aq aa 10 rfl;have aM:=au hC hL 16 [13,12] rfl;have aX:=au hC hL 19 [13,12] rfl;have a6:=au hC hL 22 [] rfl;clear hC aa;rcases bO (L 9)with e9|e9;all_goals(have hX:=an d10 (an aM (an aX (an a6 (an e9 hL))));exact fJ)
 |12,af,hL,aa=>
  cases af;have d11:=aq aa 11 rfl;have aM:=au hC hL 16 [13] rfl;have aX:=au hC hL 19 [13] rfl;have a6:=au hC hL 22 [] rfl;clear hC aa;rcases bO (L 9)with e9|e9;all_goals(have hX:=an d11 (an aM (an aX (an a6 (an e9 hL))));exact fJ)
 |13,af,hL,aa=>
  cases af;have d12:=aq aa 12 rfl;have aM:=au hC hL 16 [] rfl;have aX:=au hC hL 19 [] rfl;have a6:=au hC hL 22 [] rfl;clear hC aa;rcases bO (L 9)with e9|e9;all_goals(have hX:=an d12 (an aM (an aX (an a6 (an e9 hL))));exact fJ)
 |14,af,hL,aa=>
  cases af;have aM:=au hC hL 16 [15] rfl;have aX:=au hC hL 19 [16,15] rfl;have a6:=au hC hL 22 [] rfl;clear hC aa;rcases bO (L 9)with e9|e9;all_goals(
   refine ee.yA I (λh=>cO (by simpa[more]using h)) ?_;try simp only[]
   rw[<-o0];have g9:more L 14 9=L 9:=rfl;have g16:more L 14 16=L 16:=rfl;have g19:more L 14 19=L 19:=rfl;have g22:more L 14 22=L 22:=rfl;have ek:aI (more L 14) (more L 14) TI b=put (aI L L TI b) 34 (.any):=(dM hL sY ku (show(14,34,λL=> .any)∈TI by rw[iL];simp)).trans (by rw[<-eL (V:=L) (V':=more L 14) (by rw[iL];simp[more])];try rfl);rw[ek];try simp only[e9,aM,aX,a6,g9,g16,g19,g22,cond_true,cond_false,bR,bQ,bN]
   skip
   refine ee.j4 rfl ?_;refine aZ.Sl 34 ?_ ?_
   ·(refine av ?_;try exact trivial)
   ·exact aO.of_eq rfl)
 |15,af,hL,aa=>
  cases af;have d14:=aq aa 14 rfl;have aM:=au hC hL 16 [] rfl;have aX:=au hC hL 19 [16] rfl;have a6:=au hC hL 22 [] rfl;clear hC aa;rcases bO (L 9)with e9|e9;all_goals(have hX:=an d14 (an aM (an aX (an a6 (an e9 hL))));exact fJ)
 |16,af,hL,aa=>
  cases af;have d13:=aq aa 13 rfl;have d15:=aq aa 15 rfl;have e9:=aq aa 9 rfl;have aM:L 16=false:=hL;have aX:=au hC hL 19 [] rfl;have a6:=au hC hL 22 [] rfl
  (
   refine ee.yA I (λh=>cO (by simpa[more]using h)) ?_;try simp only[]
   rw[<-o0];have f33:=br (V:=L) (b:=b) d13 ku (show(13,33,λL=>bif L 16 then .undef else .own 0)∈TI by rw[iL];simp);have f35:=br (V:=L) (b:=b) d15 ku (show(15,35,λL=> .list [.any])∈TI by rw[iL];simp);have g9:more L 16 9=L 9:=rfl;have g16:more L 16 16=true:=rfl;have g19:more L 16 19=L 19:=rfl;have g22:more L 16 22=L 22:=rfl;have ek:aI (more L 16) (more L 16) TI b=put (jz 0 (aI L L TI b)) 36 (.own 0):=by
    refine(dM hL sY ku (show(16,36,λL=> .own 0)∈TI by rw[iL];simp)).trans ?_;rw[mP (V:=L) (V':=more L 16) (by rw[hb];simp only[cG,cN,nM,nN];rfl) (by rw[iL];simp only[jf,fu,false_implies,implies_true,and_true];and_intros<;>(intro h;first|rfl|exact absurd (hL.symm.trans h) ak|(simp only[e9,aM,aX,a6,g9,g16,g19,g22,cond_true,cond_false];rfl)))]
   rw[ek];try simp only[e9,aM,aX,a6,g9,g16,g19,g22,cond_true,cond_false,bR,bQ,bN]
   try simp only[e9,aM,aX,a6,g9,g16,g19,g22,cond_true,cond_false,cG,cN,dN,put,Nat.reduceEqDiff,if_true,if_false,reduceIte]at f33 f35
   refine ee.j4 rfl ?_;refine aZ.of ?_
   (refine sX (ai @f33 @f35) ?_;try exact trivial)
   refine⟨ag,ag,aO.of_eq ?_⟩;rw[Aw (cO e9).2.2.2])
 |17,af,hL,aa=>
  cases af;have d0:=aq aa 0 rfl;have e9:=aq aa 9 rfl;have aM:=aq aa 16 rfl;have aX:=au hC hL 19 [18] rfl;have a6:=au hC hL 22 [] rfl;have hX:=an d0 (an e9 (an aM (an aX (an a6 hL))));exact fJ
 |18,af,hL,aa=>
  cases af;have d17:=aq aa 17 rfl;have e9:=ca hC (aq aa 17 rfl) 9 [] rfl;have aM:=ca hC (aq aa 17 rfl) 16 [] rfl;have aX:=au hC hL 19 [] rfl;have a6:=au hC hL 22 [] rfl;have hX:=an d17 (an e9 (an aM (an aX (an a6 hL))));exact fJ
 |19,af,hL,aa=>
  cases af;have d9:=aq aa 9 rfl;have d18:=aq aa 18 rfl;have e9:=ca hC (aq aa 18 rfl) 9 [] rfl;have aM:=ca hC (aq aa 18 rfl) 16 [] rfl;have aX:L 19=false:=hL;have a6:=au hC hL 22 [] rfl;have hX:=an d9 (an d18 (an e9 (an aM (an aX (an a6 hL)))));exact fJ
 |20,af,hL,aa=>
  cases af;have d1:=aq aa 1 rfl;have e9:=aq aa 9 rfl;have aM:=aq aa 16 rfl;have aX:=aq aa 19 rfl;have a6:=au hC hL 22 [21] rfl;have hX:=an d1 (an e9 (an aM (an aX (an a6 hL))));exact fJ
 |21,af,hL,aa=>
  cases af;have d20:=aq aa 20 rfl;have e9:=ca hC (aq aa 20 rfl) 9 [] rfl;have aM:=ca hC (aq aa 20 rfl) 16 [] rfl;have aX:=ca hC (aq aa 20 rfl) 19 [] rfl;have a6:=au hC hL 22 [] rfl;have hX:=an d20 (an e9 (an aM (an aX (an a6 hL))));exact fJ
 |22,af,hL,aa=>
  cases af;have d16:=aq aa 16 rfl;have d21:=aq aa 21 rfl;have e9:=ca hC (aq aa 21 rfl) 9 [] rfl;have aM:=ca hC (aq aa 21 rfl) 16 [] rfl;have aX:=ca hC (aq aa 21 rfl) 19 [] rfl;have a6:L 22=false:=hL;have hX:=an d16 (an d21 (an e9 (an aM (an aX (an a6 hL)))));exact fJ
 |k + 23,af,hL,aa=>simp at af
theorem jA {d:D}{nb nr:Nat}(h:Names 0 0 d):dA nb nr d=true:=by
 have key:∀cs:List D,(∀d∈cs,dA nb nr d=true)->db nb nr cs=true:=λcs h=>iz h;induction h with
 |agg cs h ih=>exact key cs ih
 |aQ cs h ih=>exact key cs ih
 |aD f cs h ih=>exact key cs ih
 |dq f cs h ih=>exact key cs ih
 |own r h=>exact absurd h (fD _)
 |box i off h=>exact absurd h (fD _)
 |a_ i off n c h=>exact absurd h (fD _)
 |bz i h=>exact absurd h (fD _)
 |_=>rfl
theorem XV {d:D}{σ:Nat->Option Nat}(h:Names 0 0 d):d.cP σ=d:=by
 have key:∀cs:List D,(∀d∈cs,d.cP σ=d)->fW σ cs=cs:=λcs=>by
  induction cs with
  |nil=>intro _;rfl
  |cons d cs ih=>intro h;simp only[fW];rw[h d (ey ..),ih λx hx=>h x (fE _ hx)]
 induction h with
 |agg cs h ih=>simp only[D.cP];rw[key cs ih]
 |aQ cs h ih=>simp only[D.cP];rw[key cs ih]
 |aD f cs h ih=>simp only[D.cP];rw[key cs ih]
 |dq f cs h ih=>simp only[D.cP];rw[key cs ih]
 |own r h=>exact absurd h (fD _)
 |box i off h=>exact absurd h (fD _)
 |a_ i off n c h=>exact absurd h (fD _)
 |bz i h=>exact absurd h (fD _)
 |_=>simp only[D.cP]
theorem As {cs:List D}{σ:Nat->Option Nat}(h:∀d∈cs,Names 0 0 d):fW σ cs=cs:=by
 rw[Au];exact(re (g:=id) λd hd=>XV (h d hd)).trans (zJ _)
def yr (s:bh):Nat->List D->Nat->List Bx
 |0,_,_=>[.mu (cR s), .mp [], .mu (cR s++[.val (.slice none 0 0), .own 0, .bz 1,i64 0, .own 1, .bool true])]
 |j + 1,cs,cap=>[.mu (cR s), .mp [], .mu (cR s++[.a_ 3 0 (j + 1) cap, .own 0, .bz 1,i64 0, .own 1, .bool true]), .mu cs]
theorem F7 (s:bh):∀(j:Nat) (cs:List D) (cap:Nat),(j≠0->vr s j cap cs)->bZ (yr s j cs cap).length 2 (yr s j cs cap)=true
 |0,cs,cap,_=>rfl
 |j + 1,cs,cap,h=>by
  have h1:db 4 2 cs=true:=iz λd hd=>jA ((h (SZ _)).2.2.2 d hd);show bZ 4 2 [.mu (cR s), .mp [], .mu (cR s++[.a_ 3 0 (j + 1) cap, .own 0, .bz 1,i64 0, .own 1, .bool true]), .mu cs]=true;simp only[bZ,h1,Bool.and_true];rfl
abbrev aP (s:bh)(n cap:Nat)(cost:Int):List D:=cR s++[.a_ 2 0 n cap, .own 0, .bz 1,i64 cost, .own 1, .bool true]
theorem Zg (s:bh)(h:pj s)(hs:nD s):aT ae 26 [fT s] [] [] (λd aF aL=>∃cs cap,vr s s.dy.toNat cap cs/\d= .aQ [.box 0 0,i64 0]/\aF=[.mu (aP s s.dy.toNat cap 0), .mp [], .mu cs]/\aL=[aG s.dy.toNat,aH 0]):=by
 have c1:=RS s h;have c2:=Pd s h hs;have c7:=HX s;have iC:=h.2.1;refine cV func26 ntmps26 results26 call26 rfl ay λW0 S0 M0 own β hβ=> ?_;have uN:β.length=0:=by rw[hβ];rfl
 repeat'(first|(exact rfl)|refine aB ?_|refine aC λK hK=> ?_|refine cA (c1) ?_|refine cA (c2) ?_|(refine kA ?_;clear hK K)|(intro hg;try exact aw)|exact fin|apply ai)
 refine tO 2 26 132 1 _ rfl rfl ?_;refine tO 2 29 186 1 _ rfl rfl ?_;refine dH (ι:=Nat×List D×Nat) (λi=>[(1, .box 0 0),(5, .box 2 0),(17,i64 s.dy),(18,i64 (i.1:Nat))]) (λi=>yr s i.1 i.2.1 i.2.2) (λi=>[aG i.1,aH 0])
  (λi=>(i.1:Int)<=s.dy/\(i.1≠0->vr s i.1 i.2.2 i.2.1)) (λi=>s.dy.toNat - i.1) (λi hi=>⟨by cases i.1<;>rfl,F7 s _ _ _ hi.2⟩) (0,[],0) ⟨by simp only;omega,λhh=>absurd rfl hh⟩ (aV rfl (by try(refine av ?_;try exact trivial);try simp) ⟨_,rfl⟩ ⟨_,rfl⟩) (λi hi=> ?_) (λ_ _=>by rw[hβ];simp)
 obtain⟨j,cs,cap⟩:=i;obtain⟨hj,hM⟩:=hi;simp only at hj hM⊢;by_cases aU:(j:Int) < s.dy
 ·have r1 (x:D):bP j x++[x]=bP (j + 1) x:=IX.symm;cases j with
  |zero=>
   simp only[yr]
   (refine av ?_;try exact trivial)
   repeat'(first|(show az _ (.region 7 _ true) _ _;refine b_ ?_)|refine aB ?_|refine aC λK hK=> ?_|(refine kA ?_;clear hK K)|(intro hg;try exact aw)|exact fin|apply ai)
   refine cI ?_;refine k_ (dD 43 [(1, .box 0 0),(5, .box 2 0),(17,i64 s.dy),(18,i64 (0:Nat))] [.mu (cR s), .mp [], .mu (cR s++[.val (.slice none 0 0), .own 0, .bz 1,i64 0, .own 1, .bool true])] [aG 0,aH 0]) (aV rfl (by simp[put]) ⟨[],rfl⟩ ⟨[],rfl⟩) (gT rfl rfl) (by rw[hβ];exact cv _) ?_;refine Ze (by rfl) _ _ _ _ _ uN s 0 (bP 0 .any) ay c7 ?_;rintro⟨Ef,H9⟩ hI;have hI:=hI rfl;simp only[bU,cond_true,dn,cF,bR,bQ];simp only[r1];repeat'(first|refine aB ?_|refine aC λK hK=> ?_|(refine kA ?_;clear hK K)|(intro hg;try exact aw)|exact fin|apply ai)
   all_goals first
   |(exact⟨(1,Ef,H9),⟨by simp only;omega,λ_=>hI⟩,by simp only;omega,aV rfl (by try(refine av ?_;try exact trivial);try simp) ⟨_,rfl⟩ ⟨_,rfl⟩⟩)
   |trace_state
  |succ j=>
   have tD:=hM (SZ _);have dC:db 4 2 cs=true:=iz λd hd=>jA (tD.2.2.2 d hd);simp only[yr]
   (refine av ?_;try exact trivial)
   repeat'(first|(show az _ (.region 7 _ true) _ _;refine b_ ?_)|refine aB ?_|refine aC λK hK=> ?_|(refine kA ?_;clear hK K)|(intro hg;try exact aw)|exact fin|apply ai)
   refine cI ?_;refine k_ (dD 43 [(1, .box 0 0),(5, .box 2 0),(17,i64 s.dy),(18,i64 ((j + 1:Nat):Nat))] [.mu (cR s), .mp [], .mu (cR s++[.a_ 3 0 (j + 1) cap, .own 0, .bz 1,i64 0, .own 1, .bool true]), .mu cs] [aG (j + 1),aH 0]) (aV rfl (by simp[put]) ⟨[],rfl⟩ ⟨[],rfl⟩) (gT rfl (F7 s (j + 1) cs cap hM)) (by rw[hβ];exact cv _) ?_;refine Zf (by rfl) _ _ _ _ _ uN s (j + 1) (bP (j + 1) .any) (by simp;omega) c7 ag cs cap tD ?_;rintro⟨Ef,H9⟩ hI;have hI:=hI rfl;simp only[bU,cond_true,dn,cF];simp only[r1];repeat'(first|refine aB ?_|refine aC λK hK=> ?_|(refine kA ?_;clear hK K)|(intro hg;try exact aw)|exact fin|apply ai)
   all_goals first
   |(exact⟨(j + 2,Ef,H9),⟨by simp only;omega,λ_=>hI⟩,by simp only;omega,aV rfl (by try(refine av ?_;try exact trivial);try simp;try omega) ⟨[],rfl⟩ ⟨[],rfl⟩⟩)
   |trace_state
 ·obtain⟨n,hn⟩:∃n:Nat,s.dy=n:=⟨s.dy.toNat,ag⟩;obtain rfl:j=n:=ag;cases j with
  |zero=>exfalso;omega
  |succ j=>
   have tD:=hM (SZ _);simp only[yr]
   (refine av ?_;try exact trivial)
   repeat'(first|(show az _ .ret _ _;refine b_ ?_)|refine aB ?_|refine aC λK hK=> ?_|(refine kA ?_;clear hK K)|(intro hg;try exact aw)|exact fin|apply ai)
   refine cI ?_;refine k_ (dD 43 [(2, .box 2 0),(3,i64 0)] [.mu (cR s), .mp [], .mu (cR s++[.a_ 3 0 (j + 1) cap, .own 0, .bz 1,i64 0, .own 1, .bool true]), .mu cs] [aG (j + 1),aH 0]) (aV rfl (by simp[put]) ⟨[],rfl⟩ ⟨[],rfl⟩) (gT rfl (F7 s (j + 1) cs cap hM)) (by rw[hβ];exact cv _) ?_;refine eI (An [2,1,3] (l':=[(2, .box 0 0),(3,i64 0)]) (aF:=[.mu (aP s (j + 1) cap 0), .mp [], .mu cs]) ak (λi hi=>by rw[hβ]at hi;cases hi) rfl ?_) ?_
   ·have e:fW (pos [2,1,3] 0) cs=cs:=As tD.2.2.2;simp only[jY,List.map_cons,List.map_nil,List.getElem?_cons_zero,List.getElem?_cons_succ,gH,e];rfl
   refine oo ?_;have ej:s.dy.toNat=j + 1:=ag;rw[ej];show cT _ _ _ _ _
   (refine av ?_;try exact trivial)
   exact⟨cs,cap,tD,rfl⟩
end Go.Proofs.YtopobgihpdaggaaGreatDoor
