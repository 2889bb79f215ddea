import Derived.Test.YtafmfhkplgapjaaGreatDoorZ11
set_option linter.unusedVariables false
set_option linter.unusedSimpArgs false
open And renaming intro->af
open Bool renaming false_eq_true->bK
open List renaming append_assoc->kK,append_nil->eu,cons_append->eR,drop_drop->FC,drop_eq_getElem_cons->v_,foldr->e_,getElem?_cons_succ->uN,getElem?_cons_zero->zX,getElem?_set_ne->gj,headD_cons->iC,length_append->eQ,map_cons->ib,map_nil->nz,mem_append->fA,mem_map->eJ,mem_of_getElem?->ey,mem_replicate->rv,mem_singleton->oQ,nil_append->eI,not_mem_nil->ny,replicate->cD
open Nat renaming le_refl->aY,mul_one->Ch,not_lt_zero->dF,succ_ne_zero->Jr,zero_add->fK,zero_le->bD
open Option renaming getD_some->e8,map_some->eH
open Go.Proofs.Tryz renaming call137->Jn,f10->Fk,func137->Jk,ntmps137->Jf,ntmps43->Xr,prog->aa,results137->Jc,results43->Xn
open Go.Proofs.Tryz
namespace Go.Proofs.YtafmfhkplgapjaaGreatDoor
set_option maxRecDepth 100000
set_option maxHeartbeats 4000000
open Go.Ab
attribute[local irreducible] av dL dY ak aH cY IA ez aP fM
end Go.Proofs.YtafmfhkplgapjaaGreatDoor
namespace Go.Proofs.YtafmfhkplgapjaaGreatDoor
set_option maxRecDepth 100000
set_option maxHeartbeats 4000000
open Go.Ab
attribute[local irreducible] av dL dY ak aH cY IA ez aP fM
abbrev SC (s:b9)(r:ew):D:= .agg [i64 (here r (BE s r 0)),i64 (here r (BE s r 1)),i64 (u4 r (BE s r 2)),i64 (u4 r (BE s r 3)),i64 (AY r (BE s r 4)),i64 (AY r (BE s r 5))]
theorem akR (a b:Int)(h:Bool):ak aa 327 [sI a b, .bool h] (i64 (if h=true then a else b)):=by
 cases h
 ·refine cT func327 ntmps327 results327 call327 λw0 S0 M0=> ?_;repeat'(first|refine aq ?_|refine au λK hK=> ?_|(intro hg;try exact ai)|exact fin|apply af)
 ·refine cT func327 ntmps327 results327 call327 λw0 S0 M0=> ?_;repeat'(first|refine aq ?_|refine au λK hK=> ?_|(intro hg;try exact ai)|exact fin|apply af)
def Nn (s:b9)(r:ew)(lo he dr we:Bool):iz:=
 ⟨if(!lo)=true then ue s r.day else uf s r.day,if(!lo)=true then -s.rd else s.rd,if lo=true then s.gl else s.gh,if he=true then s.hl else s.hh,if(!lo)=true then r.al else r.ah,if dr=true then r.dl else r.dh,if we=true then r.wl else r.wh⟩
theorem ah0 {s:b9}{r:ew}(hs:fY s)(hr:j8 r)(hn:lI s)(lo he dr we:Bool):Cc s r (Nn s r lo he dr we):=by
 have h1:=afg hs hn r.day;have h3:=hs.h;have h4:=hs.g;have h5:=hs.r;have h6:=hr.a;have h7:=hr.y;have h8:=hr.w
 unfold iL at *;unfold Cc Nn;simp only;refine⟨?_, ?_, ?_, ?_, ?_, ?_, ?_⟩<;>split<;>omega
theorem ahY (s:b9)(hs:fY s)(r:ew)(hr:j8 r)(lo he dr we:Bool):ak aa 310 [stM s,sK r, .bool lo, .bool he, .bool dr, .bool we] (CH (Nn s r lo he dr we)):=by
 have h5:=hs.r;refine cT func310 ntmps310 results310 call310 λw0 S0 M0=> ?_;repeat'(first|refine aq ?_|((first|(show av _ (.region 3 _ true) _ _;refine xP [(13,12),(26,12),(30,12),(38,12),(44,12),(49,12),(55,12),(60,12)] Tryz.ty.mixed ax λK hK=> ?_)|show Sep _ _);refine aj ?_)|refine au λK hK=> ?_|refine cA (S8 s hs r.day hr.d) ?_|refine cA (akR _ _ _) ?_|(intro hg;try exact ai)|exact fin|apply af)
 cases lo<;>rfl
abbrev iO (r:ew):List D:=[i64 r.day,i64 r.min,i64 r.BO,i64 r.iX,i64 r.al,i64 r.ah,i64 r.dl,i64 r.dh,i64 r.wl,i64 r.wh]
theorem SO (r:ew)(t:iz):ak aa 312 [yl r t] (i64 (here r t)):=by
 refine cT func312 ntmps312 results312 call312 λw0 S0 M0=> ?_;repeat'(first|refine aq ?_|refine au λK hK=> ?_|(intro hg;try exact ai)|exact fin|apply af)
theorem SN (r:ew)(t:iz):ak aa 313 [yl r t] (i64 (u4 r t)):=by
 refine cT func313 ntmps313 results313 call313 λw0 S0 M0=> ?_;repeat'(first|refine aq ?_|refine au λK hK=> ?_|(intro hg;try exact ai)|exact fin|apply af)
theorem SM (r:ew)(t:iz):ak aa 314 [yl r t] (i64 (AY r t)):=by
 refine cT func314 ntmps314 results314 call314 λw0 S0 M0=> ?_;repeat'(first|refine aq ?_|refine au λK hK=> ?_|(intro hg;try exact ai)|exact fin|apply af)
theorem SP (r:ew)(hr:j8 r)(t:iz)(ht:rm t)(w:FuncId)(n:Int)(h:ak aa w [yl r t] (i64 n)):ak aa 308 [CH t, .ro [.ag w []], .ro (iO r)] (i64 n):=by
 refine cT func308 ntmps308 results308 call308 λw0 S0 M0=> ?_;repeat'(first|refine aq ?_|refine au λK hK=> ?_|refine cA (YF r hr t ht) ?_|refine cA (h) ?_|(intro hg;try exact ai)|exact fin|apply af)
theorem afd (r:ew)(w:FuncId):ak aa 307 [.ag w [], .ro (iO r)] (.ag 308 [.ro [.ag w []], .ro (iO r)]):=by
 refine cT func307 ntmps307 results307 call307 λw0 S0 M0=> ?_;repeat'(first|(refine j6 0 _ _ rfl rfl ?_;simp only[aU,Nat.reduceAdd])|refine aq ?_|refine au λK hK=> ?_|(intro hg;try exact ai)|exact fin|apply af)
theorem Nl (r:ew)(hr:j8 r)(t u:iz)(ht:rm t)(hu:rm u)(w:FuncId)(n m:Int)(h1:ak aa w [yl r t] (i64 n))(h2:ak aa w [yl r u] (i64 m)):
  ak aa 311 [CH t,CH u, .ag 308 [.ro [.ag w []], .ro (iO r)]] (sI n m):=by
 refine cT func311 ntmps311 results311 call311 λw0 S0 M0=> ?_;repeat'(first|refine aq ?_|refine au λK hK=> ?_|refine cA (SP r hr t ht w n h1) ?_|refine cA (SP r hr u hu w m h2) ?_|(intro hg;try exact ai)|exact fin|apply af)
theorem ahl (s:b9)(hl:s.ck.length<=9223372036854775807)(r:ew):ak aa 276 [jO s,sK r]
  (.aF [if pF s (j8 r)=0 then SC s r else .agg [i64 0,i64 0,i64 0,i64 0,i64 0,i64 0],i64 (pF s (j8 r))]):=by
 have ha:=akW (s:=s) (fine:=j8 r) hl;by_cases h:pF s (j8 r)=0
 ·have h2:=ahR h;have hs:=h2.1.1;have hr:=h2.1.2;have b:=λlo he dr we=>Zg hs hr (ah0 hs hr h2.2 lo he dr we);rw[h]at ha⊢;rw[if_pos rfl]at ha⊢;refine cT func276 ntmps276 results276 call276 λw0 S0 M0=> ?_;repeat'(first|(refine j6 1 _ _ rfl rfl ?_;simp only[aU,Nat.reduceAdd])|refine aq ?_|((first|(show av _ (.region 1 _ true) _ _;refine xP [(2,6),(3,6)] Tryz.ty.mixed ax λK hK=> ?_)|(show av _ (.region 5 _ true) _ _;refine Fa [(6,9),(6,10),(3,9),(3,10),(10,9),(9,10)] [0,1,2,3,4,5] 6 7 [8,9] Tryz.ty.mixed ax λK hK=> ?_)|(show av _ (.region 6 _ true) _ _;refine Fa [(6,11),(6,12),(3,11),(3,12),(12,11),(11,12)] [0,1,2,3,4,5] 6 7 [8,9] Tryz.ty.mixed ax λK hK=> ?_)|(show av _ (.region 7 _ true) _ _;refine xP [(9,4),(10,4),(11,4),(12,4)] Tryz.ty.mixed ax λK hK=> ?_)|show Sep _ _);refine aj ?_)|refine au λK hK=> ?_|refine cA (U8 _) ?_|refine cA (ha) ?_|refine cA (ahY s hs r hr _ _ _ _) ?_|refine cA (afd r _) ?_|refine cA (Nl r hr _ _ (b _ _ _ _) (b _ _ _ _) 312 _ _ (SO r _) (SO r _)) ?_|refine cA (Nl r hr _ _ (b _ _ _ _) (b _ _ _ _) 313 _ _ (SN r _) (SN r _)) ?_|refine cA (Nl r hr _ _ (b _ _ _ _) (b _ _ _ _) 314 _ _ (SM r _) (SM r _)) ?_|(show tw _ _;refine Kl rfl ?_ ?_ rfl)|(show vV _ _;first|refine Kj|refine Ki ?_ ?_)|(show @Eq D _ _;exact aj trivial)|(show @Eq (List Bx) _ _;exact aj trivial)|(intro hg;try exact ai)|exact fin|apply af)
  all_goals rfl
 ·generalize pF s (j8 r)=e at *;rw[if_neg h]at ha⊢;refine cT func276 ntmps276 results276 call276 λw0 S0 M0=> ?_;repeat'(first|refine aq ?_|((first|(show av _ (.region 1 _ true) _ _;refine xP [(2,6),(3,6)] Tryz.ty.mixed ax λK hK=> ?_)|(show av _ (.region 5 _ true) _ _;refine Fa [(6,9),(6,10),(3,9),(3,10),(10,9),(9,10)] [0,1,2,3,4,5] 6 7 [8,9] Tryz.ty.mixed ax λK hK=> ?_)|(show av _ (.region 6 _ true) _ _;refine Fa [(6,11),(6,12),(3,11),(3,12),(12,11),(11,12)] [0,1,2,3,4,5] 6 7 [8,9] Tryz.ty.mixed ax λK hK=> ?_)|(show av _ (.region 7 _ true) _ _;refine xP [(9,4),(10,4),(11,4),(12,4)] Tryz.ty.mixed ax λK hK=> ?_)|show Sep _ _);refine aj ?_)|refine au λK hK=> ?_|refine cA (U8 _) ?_|refine cA (ha) ?_|(show tw _ _;refine Kl rfl ?_ ?_ rfl)|(show vV _ _;first|refine Kj|refine Ki ?_ ?_)|(show @Eq D _ _;exact aj trivial)|(show @Eq (List Bx) _ _;exact aj trivial)|(exact(rfl:(Value.slice none 0 0).oneCell'=true))|(exact(rfl:(Value.map none).oneCell'=true))|(intro hg;try exact ai)|exact fin|apply af)
abbrev BV (x:b9×Int):List D:=[i64 x.1.hl,i64 x.1.hh,i64 x.1.gl,i64 x.1.gh,i64 x.1.dr,i64 x.1.rd,i64 x.1.ea,i64 x.1.sl, .list (x.1.ck.map mE),i64 x.2]
theorem acz {ops:Array Oper}(bP:ops=dA Tryz.f275 3)(w0:World)(S0:Addr->Prop)(e9:MM)(own:Nat->Prop)(β:List Nat)(s:aJ)(n cap ns na ks:Nat)(cost x0 x1:Int)(cs:List D)(r:ew)(a0 a1 lo hi a4 a5:Int)(hk:ks < s.aL.length)(ed:s.aL.length<=100)(ck:ak aa 276 [jO (nth s.aL ks).1,sK r] (.aF [.agg [i64 a0,i64 a1,i64 lo,i64 hi,i64 a4,i64 a5],i64 0])):
  jN ⟨aa,w0,S0,e9,none,own,β⟩ 3 ops 42 [(0,19,λL=> .box 0 0),(1,20,λL=> .box 0 0),(2,21,λL=> .box 0 0),(3,22,λL=> .box 0 0),(4,23,λL=> .list (s.aL.map mF)),(5,24,λL=>i64 (ks:Nat)),(6,25,λL=> .ro (BV (nth s.aL ks))),(7,26,λL=> .ro (BV (nth s.aL ks))),(8,27,λL=>jO (nth s.aL ks).1),(9,28,λL=>sK r),(10,29,λL=> .aF [.agg [i64 a0,i64 a1,i64 lo,i64 hi,i64 a4,i64 a5],i64 0]),(11,18,λL=> .aF [.agg [i64 a0,i64 a1,i64 lo,i64 hi,i64 a4,i64 a5],i64 0]),(12,30,λL=> .agg [i64 a0,i64 a1,i64 lo,i64 hi,i64 a4,i64 a5]),(13,31,λL=>i64 0),(14,5,λL=> .box 7 0),(16,6,λL=>i64 0)] [(0, .box 3 0),(1, .box 4 0),(2, .box 5 0),(3, .box 6 0),(4, .bool false)] (λL=>[.mu (ay s n cap cost), .mp [], .mu cs, .mu [.box 0 0], .mu [i64 (ks:Nat)], .mu (iO r), .mu [i64 x0,i64 x1]]++bif L 14 then[.mu (bif L 15 then[i64 a0,i64 a1,i64 lo,i64 hi,i64 a4,i64 a5]else[i64 0,i64 0,i64 0,i64 0,i64 0,i64 0])]else[]) (λL=>[bG ns,az na]):=by
 simp only[dA,eH,e8,Tryz.f275,fw,Nat.reduceBEq,bK,if_false,if_true,eI,eu,eR,iC,reduceIte,eq_self]at bP;subst bP;exact jY Tryz.ty.mixed rfl [(0,[28,30]),(0,[29,30]),(1,[1,28,30]),(1,[1,29,30]),(2,[3,28,30]),(2,[3,29,30]),(3,[5,28,30]),(3,[5,29,30]),(4,[7,28,30]),(4,[7,29,30]),(5,[28,30]),(5,[29,30]),(6,[9,11,28,30]),(6,[9,11,29,30]),(7,[13,28,30]),(7,[13,29,30]),(8,[15,28,30]),(8,[15,29,30]),(9,[28,30]),(9,[29,30]),(10,[17,19,28,30]),(10,[17,19,29,30]),(11,[21,28,30]),(11,[21,29,30]),(12,[23,28,30]),(12,[23,29,30]),(13,[23,28,30]),(13,[23,29,30]),(13,[23,29,31]),(14,[30]),(15,[25,29]),(16,[27,29,31])] [] ax rfl rfl iv js iw
theorem acA (s:aJ)(n cap ns na ks:Nat)(cost x0 x1:Int)(cs U:List D)(W R:Nat)(sl:Int)(S:List aS)(r:ew)(a0 a1 lo hi hm a4 a5:Int)(aM:s.aL.length<=100)(hk:ks < s.aL.length)(dS:0<=s.dy/\s.dy<=100)(hr:0<=r.day/\r.day<=s.dy - 1)(aw:∀d∈cs,Names 0 0 d)(Ml:hm=min hi 99999)(zb: -999999<=lo/\lo<=999999)(HP: -999999<=hi/\hi<=999999)(ck:ak aa 276 [jO (nth s.aL ks).1,sK r] (.aF [.agg [i64 a0,i64 a1,i64 lo,i64 hi,i64 a4,i64 a5],i64 0])):
  aH aa 275 [.box 3 0, .box 4 0, .box 5 0, .box 6 0] [.mu (ay s n cap cost), .mp [], .mu cs, .mu [.box 0 0], .mu [i64 (ks:Nat)], .mu (iO r), .mu [i64 x0,i64 x1]] [bG ns,az na] (aT (.bool true) [.mu (ay s n cap cost), .mp [], .mu cs, .mu [.box 0 0], .mu [i64 (ks:Nat)], .mu (iO r), .mu [i64 lo,i64 hm]] [bG ns,az na]):=by
 have bE:∀nb nr,bN nb nr cs=true:=λnb nr=>ec λd hd=>eG (aw d hd);have c1:=Hp s (.aN 2 0 n cap) (.own 0) (.bu 1) cost (.own 1) aM (ks:Nat) (.mp []:: .mu cs:: .mu [.box 0 0]:: .mu [i64 (ks:Nat)]:: .mu (iO r):: .mu [i64 x0,i64 x1]::[]) [bG ns,az na];rw[decide_eq_true ae]at c1;have c2:=AR s (.aN 2 0 n cap) (.own 0) (.bu 1) cost (.own 1) dS r.day (.mp []:: .mu cs:: .mu [.box 0 0]:: .mu [i64 (ks:Nat)]:: .mu (iO r):: .mu [i64 x0,i64 x1]::[]) [bG ns,az na];rw[decide_eq_true hr]at c2;refine lD ?_ rfl (by simp only[a7,bE];rfl) (aY _);refine cU func275 ntmps275 results275 call275 λW0 S0 M0 own β hβ=> ?_;repeat'(first|(show av _ (.region 3 _ true) _ _;refine bJ ?_)|(show av _ (.region 1 _ _) _ _;refine I2 2 5 (λN s1=>nq _ N (.func 44) [.tmp 7, .tmp 8] (some 9) s1) (λ_ _ h=>aP.G1 h) (λN s1=>nq _ N (.func 35) [.tmp 12, .tmp 14] (some 15) s1) (λ_ _ h=>aP.vd h) rfl rfl rfl (λK1 aA=> ?_);refine aj ?_)|(refine aA _ (eZ c1 ?_);intro K2 pC;simp only[aU,Nat.reduceAdd];refine aj ?_)|(refine pC _ (E5 rfl rfl ?_);clear pC K2;refine iK c2 (bC rfl) rfl rfl rfl rfl ?_;rintro d aB aD ⟨rfl,rfl,rfl⟩;simp only[aU,Nat.reduceAdd];refine aj ?_)|refine aq ?_|refine au λK hK=> ?_|(intro hg;try exact ai)|exact fin|apply af)
 refine b_ ?_;refine ep (jQ [(0, .box 3 0),(1, .box 4 0),(2, .box 5 0),(3, .box 6 0),(4, .bool false)] (by simp[put])) ?_;refine acz (by rfl) W0 S0 M0 own β s n cap ns na ks cost x0 x1 cs r a0 a1 lo hi a4 a5 hk aM ck _ ?_;simp only[e_,cond_true,cj,bH,eR,eI];repeat'(first|(show cC _ _ _ _ _;refine aj ?_)|refine aq ?_|refine au λK hK=> ?_|(intro hg;try exact ai)|exact fin|apply af)
 all_goals first|exact⟨[],rfl⟩|(subst Ml;exact⟨_,rfl⟩)
theorem acy (s:aJ)(n cap ns na ks:Nat)(cost x0 x1:Int)(cs U:List D)(W R:Nat)(sl:Int)(S:List aS)(r:ew)(a0 a1 lo hi hm a4 a5:Int)(aM:s.aL.length<=100)(hk:ks < s.aL.length)(dS:0<=s.dy/\s.dy<=100)(hr:0<=r.day/\r.day<=s.dy - 1)(aw:∀d∈cs,Names 0 0 d)(hd:cs.drop (r.day.toNat * 4)=i64 (W:Nat)::i64 (R:Nat)::i64 sl:: .list (S.map dU)::U)(bf:cs.length=cap * 4)(hn:n<=cap)(dH:n<=100)(fI:r.day < n)(hS:S.length < 12):
  aH aa 277 [.box 3 0, .box 5 0] [.mu (ay s n cap cost), .mp [], .mu cs, .mu [.box 0 0], .mu [i64 (ks:Nat)], .mu (iO r), .mu [i64 lo,i64 hm]] [bG ns,az na] (aT (.bool true) [.mu (ay s n cap cost), .mp [], .mu cs, .mu [.box 0 0], .mu [i64 (ks:Nat)], .mu (iO r), .mu [i64 lo,i64 hm]] [bG ns,az na]):=by
 have c1:=Kw s n cap cost r.day cs U _ _ _ S [bG ns,az na] hd bf hn dH ⟨hr.1,fI⟩ (.mu [.box 0 0]:: .mu [i64 (ks:Nat)]:: .mu (iO r):: .mu [i64 lo,i64 hm]::[]);rw[decide_eq_true ae]at c1;refine cU func277 ntmps277 results277 call277 λW0 S0 M0 own β hβ=> ?_;repeat'(first|(show av _ (.region 1 _ _) _ _;refine et 3 rfl (λK1 aA=> ?_);refine aj ?_)|(refine aA _ (eZ c1 ?_);simp only[aU,Nat.reduceAdd];refine aj ?_)|(show cC _ _ _ _ _;refine aj ?_)|refine aq ?_|refine au λK hK=> ?_|(intro hg;try exact ai)|exact fin|apply af)
theorem acw {ops:Array Oper}(bP:ops=dA Tryz.f278 1)(w0:World)(S0:Addr->Prop)(e9:MM)(own:Nat->Prop)(β:List Nat)(s:aJ)(n cap ns na ks:Nat)(cost:Int)(cs:List D)(r:ew)(lo hm:Int)(hk:ks < s.aL.length)(ed:s.aL.length<=100)(zb:lo<=99999)(hc:aH aa 39 [.box 0 0,i64 r.day,i64 (nth s.aL ks).2, .agg [i64 lo,i64 hm]] [.mu (ay s n cap cost), .mp [], .mu cs, .mu [.box 0 0], .mu [i64 (ks:Nat)], .mu (iO r), .mu [i64 lo,i64 hm]] [bG ns,az na] (aT (.bool true) [.mu (ay s n cap cost), .mp [], .mu cs, .mu [.box 0 0], .mu [i64 (ks:Nat)], .mu (iO r), .mu [i64 lo,i64 hm]] [bG ns,az na])):
  jN ⟨aa,w0,S0,e9,none,own,β⟩ 1 ops 24 [(0,5,λL=> .box 6 0),(1,6,λL=>i64 lo),(2,7,λL=> .bool true),(3,8,λL=> .bool true),(4,9,λL=> .box 0 0),(5,10,λL=> .box 5 0),(6,11,λL=>i64 r.day),(7,12,λL=> .box 0 0),(8,13,λL=> .box 0 0),(9,14,λL=> .box 0 0),(10,15,λL=> .box 0 0),(11,16,λL=> .list (s.aL.map mF)),(12,17,λL=>i64 (ks:Nat)),(13,18,λL=> .ro (BV (nth s.aL ks))),(14,19,λL=> .ro [i64 (nth s.aL ks).2]),(15,20,λL=>i64 (nth s.aL ks).2),(16,21,λL=> .agg [i64 lo,i64 hm]),(17,22,λL=> .bool true),(18,23,λL=> .bool true),(19,4,λL=> .bool true)] [(0, .box 6 0),(1, .box 3 0),(2, .box 5 0),(3, .box 4 0),(4, .bool false)] (λL=>[.mu (ay s n cap cost), .mp [], .mu cs, .mu [.box 0 0], .mu [i64 (ks:Nat)], .mu (iO r), .mu [i64 lo,i64 hm]]) (λL=>[bG ns,az na]):=by
 have hE:=(decide_eq_true zb);simp only[dA,eH,e8,Tryz.f278,fw,Nat.reduceBEq,bK,if_false,if_true,eI,eu,eR,iC,reduceIte,eq_self]at bP;subst bP;exact jY Tryz.ty.mixed rfl [(0,[]),(1,[1]),(2,[3]),(3,[5]),(4,[7]),(5,[7]),(6,[7,11]),(7,[7]),(8,[7,15]),(9,[7,17]),(10,[7,19]),(11,[7,21]),(12,[7]),(13,[7,23,25]),(14,[7,27]),(15,[7,29]),(16,[7]),(17,[7,9,13,31,33]),(18,[7,35]),(19,[37])] [] ax rfl rfl iv js iw
theorem acx (s:aJ)(n cap ns na ks:Nat)(cost x0 x1:Int)(cs U:List D)(W R:Nat)(sl:Int)(S:List aS)(r:ew)(a0 a1 lo hi hm a4 a5:Int)(aM:s.aL.length<=100)(hk:ks < s.aL.length)(dS:0<=s.dy/\s.dy<=100)(hr:0<=r.day/\r.day<=s.dy - 1)(aw:∀d∈cs,Names 0 0 d)(zb:lo<=99999)(hc:aH aa 39 [.box 0 0,i64 r.day,i64 (nth s.aL ks).2, .agg [i64 lo,i64 hm]] [.mu (ay s n cap cost), .mp [], .mu cs, .mu [.box 0 0], .mu [i64 (ks:Nat)], .mu (iO r), .mu [i64 lo,i64 hm]] [bG ns,az na] (aT (.bool true) [.mu (ay s n cap cost), .mp [], .mu cs, .mu [.box 0 0], .mu [i64 (ks:Nat)], .mu (iO r), .mu [i64 lo,i64 hm]] [bG ns,az na])):
  aH aa 278 [.box 6 0, .box 3 0, .box 5 0, .box 4 0] [.mu (ay s n cap cost), .mp [], .mu cs, .mu [.box 0 0], .mu [i64 (ks:Nat)], .mu (iO r), .mu [i64 lo,i64 hm]] [bG ns,az na] (aT (.bool true) [.mu (ay s n cap cost), .mp [], .mu cs, .mu [.box 0 0], .mu [i64 (ks:Nat)], .mu (iO r), .mu [i64 lo,i64 hm]] [bG ns,az na]):=by
 refine cU func278 ntmps278 results278 call278 λW0 S0 M0 own β hβ=> ?_;repeat'(first|(show av _ (.region 1 _ true) _ _;refine bJ ?_)|refine aq ?_|refine au λK hK=> ?_|(intro hg;try exact ai)|exact fin|apply af)
 refine b_ ?_;refine ep (jQ [(0, .box 6 0),(1, .box 3 0),(2, .box 5 0),(3, .box 4 0),(4, .bool false)] (by simp[put])) ?_;refine acw (by rfl) W0 S0 M0 own β s n cap ns na ks cost cs r lo hm hk aM zb hc _ ?_;simp only[e_,cond_true,cj,bH];repeat'(first|(show cC _ _ _ _ _;refine aj ?_)|refine aq ?_|refine au λK hK=> ?_|(intro hg;try exact ai)|exact fin|apply af)
theorem acu {ops:Array Oper}(bP:ops=dA Tryz.f239 5)(w0:World)(S0:Addr->Prop)(e9:MM)(own:Nat->Prop)(β:List Nat)(s:aJ)(n cap ns na ks:Nat)(cost:Int)(cs eF:List D)(r:ew)(lo hm:Int)(hk:ks < s.aL.length)(ed:s.aL.length<=100)(hc:aH aa 40 [.box 0 0,i64 r.day,i64 (nth s.aL ks).2, .agg [i64 lo,i64 hm]] [.mu (ay s n cap cost), .mp [], .mu cs, .mu [.box 0 0], .mu [i64 (ks:Nat)], .mu (iO r), .mu [i64 lo,i64 hm]] [bG ns,az na] (aT (.aF []) [.mu (ay s n cap cost), .mp [], .mu eF, .mu [.box 0 0], .mu [i64 (ks:Nat)], .mu (iO r), .mu [i64 lo,i64 hm]] [bG ns,az na])):
  jN ⟨aa,w0,S0,e9,none,own,β⟩ 5 ops 35 [(0,21,λL=> .box 0 0),(1,22,λL=> .box 5 0),(2,23,λL=>i64 r.day),(3,24,λL=> .box 0 0),(4,25,λL=> .box 0 0),(5,26,λL=> .box 0 0),(6,27,λL=> .box 0 0),(7,28,λL=> .list (s.aL.map mF)),(8,29,λL=>i64 (ks:Nat)),(9,30,λL=> .ro (BV (nth s.aL ks))),(10,31,λL=> .ro [i64 (nth s.aL ks).2]),(11,32,λL=>i64 (nth s.aL ks).2),(12,33,λL=> .agg [i64 lo,i64 hm]),(13,34,λL=> .aF [])] [(3, .box 3 0),(4, .box 4 0),(5, .box 5 0),(7, .box 6 0)] (λL=>[.mu (ay s n cap cost), .mp [], .mu (bif L 13 then eF else cs), .mu [.box 0 0], .mu [i64 (ks:Nat)], .mu (iO r), .mu [i64 lo,i64 hm]]) (λL=>[bG ns,az na]):=by
 simp only[dA,eH,e8,Tryz.f239,fw,Nat.reduceBEq,bK,if_false,if_true,eI,eu,eR,iC,reduceIte,eq_self]at bP;subst bP;exact jY Tryz.ty.mixed rfl [(0,[26]),(1,[26]),(2,[3,26]),(3,[26]),(4,[7,26]),(5,[9,26]),(6,[11,26]),(7,[13,26]),(8,[26]),(9,[15,17,26]),(10,[19,26]),(11,[21,26]),(12,[26]),(13,[1,5,23,25])] [] ax rfl rfl iv js iw
theorem NG {cs U:List D}{W R:Nat}{sl pt lo hi:Int}{S:List aS}{j:Nat}(aw:∀d∈cs,Names 0 0 d)(hd:cs.drop (j * 4)=i64 (W:Nat)::i64 (R:Nat)::i64 sl:: .list (S.map dU)::U):∀d∈cs.take (j * 4)++cx W R sl (S++[⟨pt,lo,hi⟩])++U,Names 0 0 d:=λd h=>by
 have hU:cs.drop (j * 4 + 4)=U:=by rw[<-FC,hd];rfl
 rcases fA.1 h with h|h
 ·rcases fA.1 h with h|h
  ·exact aw d (List.mem_of_mem_take h)
  ·simp only[cx,List.mem_cons,ny,or_false]at h;rcases h with rfl|rfl|rfl|rfl<;>constructor
 ·rw[<-hU]at h;exact aw d (List.mem_of_mem_drop h)
theorem acv (s:aJ)(n cap ns na ks:Nat)(cost:Int)(cs U:List D)(W R:Nat)(sl:Int)(S:List aS)(r:ew)(a0 a1 lo hi hm a4 a5:Int)(aM:s.aL.length<=100)(hk:ks < s.aL.length)(dS:0<=s.dy/\s.dy<=100)(hr:0<=r.day/\r.day<=s.dy - 1)(aw:∀d∈cs,Names 0 0 d)(Ml:hm=min hi 99999)(zb: -999999<=lo/\lo<=99999)(HP: -999999<=hi/\hi<=999999)(ck:ak aa 276 [jO (nth s.aL ks).1,sK r] (.aF [.agg [i64 a0,i64 a1,i64 lo,i64 hi,i64 a4,i64 a5],i64 0]))
  (hd:cs.drop (r.day.toNat * 4)=i64 (W:Nat)::i64 (R:Nat)::i64 sl:: .list (S.map dU)::U)(bf:cs.length=cap * 4)(hn:n<=cap)(dH:n<=100)(fI:r.day < n)(hS:S.length < 12)(mr:na < 60)(hM:dB W R sl (S++[⟨(nth s.aL ks).2,lo,hm⟩]))(hC:fp W sl (S++[⟨(nth s.aL ks).2,lo,hm⟩])):
  aH aa 239 [.box 0 0,i64 (ks:Nat),sK r] [.mu (ay s n cap cost), .mp [], .mu cs] [bG ns,az na] (aT (i64 0) [.mu (ay s n cap cost), .mp [], .mu (cs.take (r.day.toNat * 4)++cx W R sl (S++[⟨(nth s.aL ks).2,lo,hm⟩])++U)] [bG ns,az (na + 1)]):=by
 have bE:∀nb nr,bN nb nr cs=true:=λnb nr=>ec λd hd=>eG (aw d hd);have iG:cs.map (gY 1)=cs:=u7 aw;have q1:=gC (nr:=2) [.mu [.box 0 0], .mu [.ag 275 [.box 3 0, .box 4 0, .box 5 0, .box 6 0]], .mu [.ag 277 [.box 3 0, .box 5 0]], .mu [.ag 278 [.box 6 0, .box 3 0, .box 5 0, .box 4 0]]] (acA s n cap ns na ks cost 0 0 cs U W R sl S r a0 a1 lo hi hm a4 a5 aM hk dS hr aw Ml ae HP ck);have q2:=gC (nr:=2) [.mu [.box 0 0], .mu [.ag 275 [.box 3 0, .box 4 0, .box 5 0, .box 6 0]], .mu [.ag 277 [.box 3 0, .box 5 0]], .mu [.ag 278 [.box 6 0, .box 3 0, .box 5 0, .box 4 0]]] (acy s n cap ns na ks cost 0 0 cs U W R sl S r a0 a1 lo hi hm a4 a5 aM hk dS hr aw hd bf hn dH fI hS);have p0:=gC (nr:=2) [.mu [.box 0 0], .mu [i64 (ks:Nat)], .mu (iO r), .mu [i64 lo,i64 hm]] (KO s (bG ns) n cap na cost r.day (nth s.aL ks).2 lo hm cs U W R sl S aw hd bf hn dH ⟨hr.1,fI⟩ ae hM hC);have q3:=gC (nr:=2) [.mu [.box 0 0], .mu [.ag 275 [.box 3 0, .box 4 0, .box 5 0, .box 6 0]], .mu [.ag 277 [.box 3 0, .box 5 0]], .mu [.ag 278 [.box 6 0, .box 3 0, .box 5 0, .box 4 0]]] (acx s n cap ns na ks cost 0 0 cs U W R sl S r a0 a1 lo hi hm a4 a5 aM hk dS hr aw ae p0);have c1:=Y_ s n cap cost (.mp []) (.mu cs) (.mu [.box 0 0]) (.mu [i64 (ks:Nat)]) (.mu (iO r)) (.mu [i64 0,i64 0]) (.mp []) (.mu cs) (.mu [.box 0 0]) (.mu [i64 (ks:Nat)]) (.mu (iO r)) (.mu [i64 lo,i64 hm]) ns na mr 275 277 278 [.box 3 0, .box 4 0, .box 5 0, .box 6 0] [.box 3 0, .box 5 0] [.box 6 0, .box 3 0, .box 5 0, .box 4 0] (by simp only[a7,bE];rfl) (by simp only[a7,bE];rfl) (by simp only[ib,nz,ij,iG];rfl) q1 q2 q3;have mv:=NG (pt:=(nth s.aL ks).2) (lo:=lo) (hi:=hm) aw hd;have c2:=KC s (bG ns) n cap (na + 1) cost r.day (nth s.aL ks).2 lo hm cs U W R sl S aw hd bf hn dH ⟨hr.1,fI⟩ ae;generalize cs.take (r.day.toNat * 4)++cx W R sl (S++[⟨(nth s.aL ks).2,lo,hm⟩])++U=eF at mv c2⊢;have qX:∀nb nr,bN nb nr eF=true:=λnb nr=>ec λd hd=>eG (mv d hd);have c2:=gC (nr:=2) [.mu [.box 0 0], .mu [i64 (ks:Nat)], .mu (iO r), .mu [i64 lo,i64 hm]] c2 rfl (by simp only[a7,bE];rfl) (by simp only[a7,qX];rfl) rfl rfl rfl;refine lD ?_ rfl (by simp only[a7,qX];rfl) (aY _);refine cU func239 ntmps239 results239 call239 λW0 S0 M0 own β hβ=> ?_;repeat'(first|(show av _ (.region 5 _ true) _ _;refine bJ ?_)|(show av _ (.region 2 _ _) _ _;refine et 8 rfl (λK1 aA=> ?_);refine aj ?_)|(refine aA _ (eZ c1 ?_);simp only[aU,Nat.reduceAdd];refine aj ?_)|refine aq ?_|refine au λK hK=> ?_|(intro hg;try exact ai)|exact fin|apply af)
 all_goals first|(show 1=aC aa 3;simp only[go_sem];done)|(with_reducible rfl)|skip
 refine b_ ?_;refine nv (cR 35 [(3, .box 3 0),(4, .box 4 0),(5, .box 5 0),(7, .box 6 0)] [.mu (ay s n cap cost), .mp [], .mu cs, .mu [.box 0 0], .mu [i64 (ks:Nat)], .mu (iO r), .mu [i64 lo,i64 hm]] [bG ns,az (na + 1)]) (br rfl (by simp[put]) ⟨[],rfl⟩ ⟨[],rfl⟩) (ik rfl (by simp only[a7,bE];rfl)) (by show β.length<=7;rw[hβ];show 3<=7;decide) ?_;refine acu (by rfl) W0 S0 M0 own β s n cap ns (na + 1) ks cost cs eF r lo hm hk aM c2 _ ?_;simp only[e_,cond_true,cj,bH];repeat'(first|(show cC _ _ _ _ _;refine aj ?_)|refine aq ?_|refine au λK hK=> ?_|(intro hg;try exact ai)|exact fin|apply af)
 all_goals first|exact⟨[],rfl⟩|exact⟨_,rfl⟩
def hG (T:List Int)(n:Int)(f:Int):Int:=if n=63\/n - 48=f then 1 else if BY ((nth T f.toNat).fdiv (2 ^ (n - 48).toNat)) 1=1 then 2 else 0
def BR (n:Int):Prop:=(48<=n/\n<=57)\/n=63
abbrev oX (F:List (Int×Int))(T:List Int)(mo:Int):List D:=[.list (F.map kd),ints T,i64 mo]
def zL (T:List Int):Prop:=T.length=10/\∀i,i < 10->0<=nth T i/\nth T i<=1023
theorem ahC {a:Int}(h:0<=a/\a<=1023)(k:Nat):0<=a.fdiv (2 ^ k)/\a.fdiv (2 ^ k)<=1023:=by
 have h2:(0:Int) < 2 ^ k:=Int.pow_pos aE;rw[Int.fdiv_eq_ediv_of_nonneg _ ae];exact⟨Int.ediv_nonneg h.1 ae,Int.le_trans (Int.ediv_le_self _ h.1) h.2⟩
theorem agd (F:List (Int×Int))(T:List Int)(mo n f:Int)(hT:zL T)(hn:BR n)(hf:0<=f/\f<=9):ak aa 209 [.agg (oX F T mo), .int .u8 n,i64 f] (i64 (hG T n f)):=by
 have hb:=hT.2 f.toNat ae;have hTl:=hT.1;unfold BR at hn;have HR:0<=(nth T f.toNat).fdiv (2 ^ (n - 48).toNat)/\(nth T f.toNat).fdiv (2 ^ (n - 48).toNat)<=1023:=ahC hb _;refine cT func209 ntmps209 results209 call209 λw0 S0 M0=> ?_;repeat'(first|refine aq ?_|refine au λK hK=> ?_|(intro hg;try exact ai)|exact fin|apply af)
 all_goals first
  |omega
  |(unfold hG;simp[*];done)
def fX (C:List (List ByteArray))(i at_ pl:Nat):Int:=((nth (nth C i) at_).data.getD pl 0).toNat
def pX (T:List Int)(mo:Int)(C:List (List ByteArray))(at_ pl:Nat)(f:Int):Nat->List Int->Nat->List Int×Bool
 |0,n,_=>(n,true)
 |k + 1,n,i=>
  if hG T (fX C i at_ pl) f=0 then(n,false)
  else if mo < nth (if hG T (fX C i at_ pl) f=2 then n.set i (nth n i + 1)else n) i then(if hG T (fX C i at_ pl) f=2 then n.set i (nth n i + 1)else n,false)
  else pX T mo C at_ pl f k (if hG T (fX C i at_ pl) f=2 then n.set i (nth n i + 1)else n) (i + 1)
def eC (T:List Int)(mo:Int)(C:List (List ByteArray))(n:List Int)(at_ pl:Nat)(f:Int):List Int×Bool:=pX T mo C at_ pl f C.length n 0
def wj (k:Nat)(C:List (List ByteArray)):Prop:=C.length<=3/\∀i,i < C.length->(nth C i).length=k + 1/\∀q,q<=k->(nth (nth C i) q).size=5/\∀p,p < 5->BR (fX C i q p)
def qH (mo:Int)(n:List Int):Prop:=n.length=3/\∀i,i < 3->0<=nth n i/\nth n i<=mo
abbrev Wc (C:List (List ByteArray)):D:= .list (C.map λc=> .list (c.map D.str))
abbrev nM (F:List (Int×Int))(T:List Int)(mo:Int)(C:List (List ByteArray)):List D:=[.list (F.map kd),ints T,i64 mo,Wc C]
abbrev kH (n:List Int):List D:=n.map λ(x:Int)=>i64 x
theorem zD {mo a b c:Int}(h1:0<=a/\a<=mo)(h2:0<=b/\b<=mo)(h3:0<=c/\c<=mo):qH mo [a,b,c]:=⟨rfl,λi hi=>by
 match i,hi with
 |0,_=>exact h1
 |1,_=>exact h2
 |2,_=>exact h3⟩
theorem akb {C:List (List ByteArray)}{j at_ pl:Nat}(h:pl < (nth (nth C j) at_).size):fX C j at_ pl=((nth (nth C j) at_)[pl]'h).toNat:=by
 unfold fX;have h':pl < (nth (nth C j) at_).data.size:=h;rw[Array.getD_eq_getD_getElem?,Array.getElem?_eq_getElem h'];rfl
theorem adS {α:Type}[Inhabited α]{a:α}{l:List α}:nth (a::l) 0=a:=rfl
theorem adR {α:Type}[Inhabited α]{a b:α}{l:List α}:nth (a::b::l) 1=b:=rfl
theorem adQ {α:Type}[Inhabited α]{a b c:α}{l:List α}:nth (a::b::c::l) 2=c:=rfl
theorem qH.three {mo:Int}{n:List Int}(h:qH mo n):∃a b c:Int,n=[a,b,c]/\(0<=a/\a<=mo)/\(0<=b/\b<=mo)/\(0<=c/\c<=mo):=by
 match n,h.1 with
 |[a,b,c],_=>exact⟨a,b,c,rfl,h.2 0 aE,h.2 1 aE,h.2 2 aE⟩
theorem age (T:List Int)(n f:Int):hG T n f=0\/hG T n f=1\/hG T n f=2:=by unfold hG;split<;>(try split)<;>simp
theorem Rb (F:List (Int×Int))(T:List Int)(mo:Int)(C:List (List ByteArray))(n0:List Int)(k at_ pl:Nat)(f:Int)(hT:zL T)(hC:wj k C)(hn:qH mo n0)(ln:0<=mo/\mo<=2)(ha:at_<=k)(hk:k<=3)(hp:pl < 5)(hf:0<=f/\f<=9):
  ak aa 140 [.agg (nM F T mo C), .agg (kH n0),i64 at_,i64 pl,i64 f] (.aF [.agg (kH (eC T mo C n0 at_ pl f).1), .bool (eC T mo C n0 at_ pl f).2]):=by
 have bf:=hC.1;obtain⟨R,hR⟩:∃R,R=eC T mo C n0 at_ pl f:=⟨_,rfl⟩;rw[<-hR];refine cT func140 ntmps140 results140 call140 λw0 S0 M0=> ?_;repeat'(first|refine aq ?_|refine au λK hK=> ?_|(intro hg;try exact ai)|exact fin|apply af)
 refine dn (ι:=Nat×List Int) (λi=>[(2,i64 at_),(3,i64 pl),(4,i64 f),(5, .box 0 0),(6, .box 1 0),(10, .box 2 0),(15,Wc C),(16,i64 C.length),(17,i64 i.1)]) (λi=>[.mu (nM F T mo C), .mu (kH i.2), .mu [i64 0,i64 0,i64 0]]) (λ_=>[])
  (λi=>i.1<=C.length/\qH mo i.2/\pX T mo C at_ pl f (C.length - i.1) i.2 i.1=R) (λi=>C.length - i.1) (λ_ hi=>⟨rfl,by obtain⟨a,b,c,e,_⟩:=hi.2.1.three;rw[e];rfl⟩) (0,n0) ⟨bD _,hn,hR.symm⟩ bY (λi hi=> ?_)
 obtain⟨j,n⟩:=i;obtain⟨hj,Bj,gn⟩:=hi;simp only at hj Bj gn⊢;by_cases aG:j < C.length
 ·obtain⟨a,b,c,rfl,Bt,gz,vB⟩:=Bj.three;have r8:=hC.2 j aG;have UM:=r8.2 at_ ha;have c1:=agd F T mo (fX C j at_ pl) f hT (UM.2 pl hp) hf;have aM:C.length - j=(C.length - (j + 1)) + 1:=ae;rw[aM]at gn;have h1:=r8.1;have h2:=UM.1;have h3:pl < (nth (nth C j) at_).size:=ae;have e1:fX C j at_ pl=((nth (nth C j) at_)[pl]'h3).toNat:=akb h3
  simp only[pX]at gn;rw[e1]at c1 gn;generalize hw:hG T ((nth (nth C j) at_)[pl]'h3).toNat f=v at c1 gn
  have hv:v=0\/v=1\/v=2:=by rw[<-hw];exact age _ _ _
  clear hw;have Mh:j=0\/j=1\/j=2:=ae;rcases Mh with rfl|rfl|rfl<;>rcases hv with rfl|rfl|rfl
  all_goals simp only[Int.reduceEq,if_true,if_false,reduceIte,List.set,adS,adR,adQ]at gn
  all_goals
   refine aj ?_;repeat'(first|refine aq ?_|refine au λK hK=> ?_|refine cA (c1) ?_|((refine Exists.intro ae ?_))|(intro hg;try exact ai)|exact fin|apply af)
  all_goals first
   |(show(_:Bool)=true;kernel_rfl)
   |omega
   |(subst gn;rfl)
   |(rw[if_pos ae]at gn;subst gn;rfl)
   |(rw[if_neg ae]at gn;refine⟨(1,[a,b,c]),⟨by simp only;omega,zD ae ae ae,gn⟩,by simp only;omega, ?_⟩;exact bY)
   |(rw[if_neg ae]at gn;refine⟨(1,[a + 1,b,c]),⟨by simp only;omega,zD ae ae ae,gn⟩,by simp only;omega, ?_⟩;exact bY)
   |(rw[if_neg ae]at gn;refine⟨(2,[a,b,c]),⟨by simp only;omega,zD ae ae ae,gn⟩,by simp only;omega, ?_⟩;exact bY)
   |(rw[if_neg ae]at gn;refine⟨(2,[a,b + 1,c]),⟨by simp only;omega,zD ae ae ae,gn⟩,by simp only;omega, ?_⟩;exact bY)
   |(rw[if_neg ae]at gn;refine⟨(3,[a,b,c]),⟨by simp only;omega,zD ae ae ae,gn⟩,by simp only;omega, ?_⟩;exact bY)
   |(rw[if_neg ae]at gn;refine⟨(3,[a,b,c + 1]),⟨by simp only;omega,zD ae ae ae,gn⟩,by simp only;omega, ?_⟩;exact bY)
 ·obtain rfl:j=C.length:=ae;rw[Nat.sub_self]at gn;simp only[pX]at gn;subst gn;obtain⟨a,b,c,rfl,Bt,gz,vB⟩:=Bj.three;refine aj ?_;repeat'(first|refine aq ?_|refine au λK hK=> ?_|(intro hg;try exact ai)|exact fin|apply af)
  all_goals trace_state
theorem Re {T:List Int}{mo:Int}{C:List (List ByteArray)}{at_ pl:Nat}{f:Int}:∀(k:Nat) (n:List Int) (i:Nat),qH mo n->i + k<=3->
  (pX T mo C at_ pl f k n i).1.length=3/\((pX T mo C at_ pl f k n i).2=true->qH mo (pX T mo C at_ pl f k n i).1)
 |0,n,i,h,_=>⟨h.1,λ_=>h⟩
 |k + 1,n,i,h,hk=>by
  simp only[pX];by_cases h0:hG T (fX C i at_ pl) f=0
  ·rw[if_pos h0];exact⟨h.1,λhh=>by cases hh⟩
  ·rw[if_neg h0];have eg:i < n.length:=by rw[h.1];omega
   have h4:=h.2 i ae;have e1:nth (n.set i (nth n i + 1)) i=nth n i + 1:=by simp[nth,eg]
   generalize n9:(if hG T (fX C i at_ pl) f=2 then n.set i (nth n i + 1)else n)=n';have hl:n'.length=3:=by rw[<-n9];split<;>simp[h.1]
   have h5:0<=nth n' i:=by
    rw[<-n9];split
    ·rw[e1];omega
    ·omega
   have h6:∀q,q≠i->nth n' q=nth n q:=λq hq=>by
    rw[<-n9];split
    ·simp[nth,gj (Ne.symm hq)]
    ·rfl
   by_cases hm:mo < nth n' i
   ·rw[if_pos hm];exact⟨hl,λhh=>by cases hh⟩
   ·rw[if_neg hm];refine Re k n' (i + 1) ⟨hl,λq hq=> ?_⟩ ae;by_cases Ty:q=i
    ·subst Ty;omega
    ·rw[h6 q Ty];exact h.2 q hq
theorem KQ {k:Nat}{T:List Int}{mo:Int}{C:List (List ByteArray)}{at_ pl:Nat}{f:Int}{n:List Int}(hC:wj k C)(h:qH mo n):(eC T mo C n at_ pl f).1.length=3/\((eC T mo C n at_ pl f).2=true->qH mo (eC T mo C n at_ pl f).1):=
 Re _ n 0 h (by have:=hC.1;omega)
def k6 (T:List Int)(mo:Int)(C:List (List ByteArray))(n:List Int)(at_ pl:Nat):Nat->List (Nat×List Int)
 |0=>[]
 |j + 1=>k6 T mo C n at_ pl j++(if(eC T mo C n at_ pl (j:Nat)).2=true then[(j,(eC T mo C n at_ pl (j:Nat)).1)]else[])
abbrev E0 (x:Nat×List Int):List D:=[i64 (x.1:Nat), .agg (kH x.2)]
theorem Wp {T:List Int}{mo:Int}{C:List (List ByteArray)}{n:List Int}{at_ pl j:Nat}:∀m,j<=m->∃t,k6 T mo C n at_ pl m=k6 T mo C n at_ pl j++t
 |0,h=>by
  obtain rfl:j=0:=ae;exact⟨[],by simp[k6]⟩
 |m + 1,h=>by
  by_cases hj:j=m + 1
  ·subst hj;exact⟨[],by simp⟩
  ·obtain⟨t,ht⟩:=Wp (T:=T) (mo:=mo) (C:=C) (n:=n) (at_:=at_) (pl:=pl) (j:=j) m ae;exact⟨_,by simp only[k6];rw[ht,kK]⟩
theorem aku {T:List Int}{mo:Int}{C:List (List ByteArray)}{n:List Int}{at_ pl j:Nat}(hj:j < 10)(h:(eC T mo C n at_ pl (j:Nat)).2=true):
  ((k6 T mo C n at_ pl 10).map E0)[(k6 T mo C n at_ pl j).length]? =some [i64 (j:Nat), .agg (kH (eC T mo C n at_ pl (j:Nat)).1)]:=by
 obtain⟨t,ht⟩:=Wp (T:=T) (mo:=mo) (C:=C) (n:=n) (at_:=at_) (pl:=pl) (j:=j + 1) 10 ae;rw[ht];simp[k6,h]
theorem Wq {T:List Int}{mo:Int}{C:List (List ByteArray)}{n:List Int}{at_ pl k:Nat}(hC:wj k C)(hn:qH mo n):∀m,∀x∈k6 T mo C n at_ pl m,x.1 < m/\qH mo x.2
 |0,x,h=>by cases h
 |m + 1,x,h=>by
  simp only[k6]at h;rcases fA.1 h with h|h
  ·have:=Wq hC hn m x h;exact⟨ae,this.2⟩
  ·split at h
   ·rename_i h2;rw[oQ]at h;subst h
    exact⟨Nat.lt_succ_self _,(KQ hC hn).2 h2⟩
   ·cases h
theorem akt (F:List (Int×Int))(T:List Int)(mo:Int)(C:List (List ByteArray))(n:List Int)(k at_ pl:Nat)(hT:zL T)(hC:wj k C)(hn:qH mo n)(ln:0<=mo/\mo<=2)(ha:at_<=k)(hk:k<=3)(hp:pl < 5):
  Iter aa 210 [.ro (nM F T mo C), .ro (kH n), .ro [i64 (at_:Nat)], .ro [i64 (pl:Nat)]] ((k6 T mo C n at_ pl 10).map E0):=by
 obtain⟨L,hL⟩:∃L:Nat->List (Nat×List Int),L=k6 T mo C n at_ pl:=⟨_,rfl⟩;have im:∀j:Nat,j < 10->(eC T mo C n at_ pl (j:Nat)).2=true->((L 10).map E0)[(L j).length]? =some [i64 (j:Nat), .agg (kH (eC T mo C n at_ pl (j:Nat)).1)]:=λj hj h=>by rw[hL];exact aku hj h
 have A_:∀j:Nat,(L (j + 1)).length=(L j).length + (if(eC T mo C n at_ pl (j:Nat)).2=true then 1 else 0):=λj=>by rw[hL];simp only[k6];split<;>simp
 have xh:(L 0).length=0:=by rw[hL];rfl
 rw[<-hL];have jF:=λj:Nat=>λhj:j < 10=>Rb F T mo C n k at_ pl (j:Nat) hT hC hn ln ha hk hp ae;have pw:∀j:Nat,(eC T mo C n at_ pl (j:Nat)).1.length=3:=λj=>(KQ hC hn).1;generalize hP:(λj:Nat=>eC T mo C n at_ pl (j:Nat))=P at *;have UZ:∀j:Nat,eC T mo C n at_ pl (j:Nat)=P j:=λj=>by rw[<-hP]
 simp only[UZ]at im A_ jF pw;clear hP UZ hL;obtain⟨a,b,c,rfl,_⟩:=hn.three;refine LA func210 ntmps210 results210 call210 rfl aO λl J Jx=> ?_;repeat'(first
   |refine nU ?_
   |refine n3 ?_
   |refine nV ?_
   |refine nX ?_
   |refine nT ?_
   |refine nZ ?_
   |refine nW ?_
   |(refine nY ?_;(refine aj ?_;try exact trivial))
   |(refine gF λw0 S0 M0 oq=>kI λK hK=> ?_;(refine aj ?_;try exact trivial))
   |(refine gF λw0 S0 M0 oq=>mG Tryz.ty.mixed ax λK hK=> ?_;(refine aj ?_;try exact trivial))
   |(refine hK _ ?_;clear hK K;simp only[bT,bU,if_true,Nat.reduceEqDiff,reduceIte])
   |(show bT _ _ _ _ _;simp only[bT,bU,if_true,Nat.reduceEqDiff,reduceIte])
   |(show gv _ _ _ _;simp only[gv,bT,bU,if_true,Nat.reduceEqDiff,reduceIte])
   |(show bU _ _ _ _ _;simp only[bT,bU,if_true,Nat.reduceEqDiff,reduceIte])
   |(intro hg;first|(exfalso;omega)|(exfalso;contradiction)|skip)
   |apply af
   |(with_reducible rfl)
   |(clear hK;omega)
   |omega)
 refine Hq (ι:=Nat) (λj=>[(0, .val (.func (.yield l) #[] #[])),(1, .ro (nM F T mo C)),(2, .ro (kH [a,b,c])),(3, .ro [i64 (at_:Nat)]),(4, .ro [i64 (pl:Nat)]),(9,i64 (j:Nat))]) (λj=>(true,(L j).length)) (λj=>j<=10) (λj=>10 - j) (λ_ _=>rfl) 0 (bD _) (by simp[xh]) bY (λj hj=> ?_);by_cases aG:j < 10
 ·have c1:=jF j aG;have hy:=im j aG;have hs:=A_ j;obtain⟨a',b',c',hR⟩:∃a' b' c':Int,(P j).1=[a',b',c']:=by
   match h:(P j).1,pw j with
   |[x,y,z],_=>exact⟨x,y,z,rfl⟩
  cases h2:(P j).2 with
  |true=>
   have hy:=hy h2;rw[h2,if_pos rfl]at hs;rw[h2]at c1;rw[hR]at c1 hy;refine aj ?_;repeat'(first
     |refine nU ?_
     |refine n3 ?_
     |refine nV ?_
     |refine nX ?_
     |refine nT ?_
     |refine nZ ?_
     |refine nW ?_
     |(refine nY ?_;(refine aj ?_;try exact trivial))
     |((refine bo (c1) ?_;try(refine aj ?_;try exact trivial)))
     |((show IA _ (.region 4 _ _) _ _ _;refine Tb 5 rfl λK1 aA=> ?_;(refine aj ?_;try exact trivial)))
     |(refine gF λw0 S0 M0 oq=>kI λK hK=> ?_;(refine aj ?_;try exact trivial))
     |(refine gF λw0 S0 M0 oq=>mG Tryz.ty.mixed ax λK hK=> ?_;(refine aj ?_;try exact trivial))
     |(refine hK _ ?_;clear hK K;simp only[bT,bU,if_true,Nat.reduceEqDiff,reduceIte])
     |(show bT _ _ _ _ _;simp only[bT,bU,if_true,Nat.reduceEqDiff,reduceIte])
     |(show gv _ _ _ _;simp only[gv,bT,bU,if_true,Nat.reduceEqDiff,reduceIte])
     |(show bU _ _ _ _ _;simp only[bT,bU,if_true,Nat.reduceEqDiff,reduceIte])
     |(intro hg;first|(exfalso;omega)|(exfalso;contradiction)|skip)
     |apply af
     |(with_reducible rfl)
     |(clear hK;omega)
     |omega)
   all_goals
    refine aA _ _ rfl rfl ?_ ?_ ?_ (λb=> ?_)
    ·exact hy
    ·(refine aj ?_;try exact trivial)
    ·intro q b e;cases e;exact⟨22,rfl,rfl⟩
    ·clear aA K1;refine aj ?_;repeat'(first
       |refine nU ?_
       |refine n3 ?_
       |refine nV ?_
       |refine nX ?_
       |refine nT ?_
       |refine nZ ?_
       |refine nW ?_
       |(refine nY ?_;(refine aj ?_;try exact trivial))
       |(refine gF λw0 S0 M0 oq=>kI λK hK=> ?_;(refine aj ?_;try exact trivial))
       |(refine gF λw0 S0 M0 oq=>mG Tryz.ty.mixed ax λK hK=> ?_;(refine aj ?_;try exact trivial))
       |(refine hK _ ?_;clear hK K;simp only[bT,bU,if_true,Nat.reduceEqDiff,reduceIte])
       |(show bT _ _ _ _ _;simp only[bT,bU,if_true,Nat.reduceEqDiff,reduceIte])
       |(show gv _ _ _ _;simp only[gv,bT,bU,if_true,Nat.reduceEqDiff,reduceIte])
       |(show bU _ _ _ _ _;simp only[bT,bU,if_true,Nat.reduceEqDiff,reduceIte])
       |(intro hg;first|(exfalso;omega)|(exfalso;contradiction)|skip)
       |apply af
       |(with_reducible rfl)
       |(clear hK;omega)
       |omega)
     all_goals first
     |(exfalso;simp_all;done)
     |(simp_all;done)
     |(have Er:b=true:=by simp_all
       subst Er;exact⟨j + 1,ae,ae,by rw[hs],bY⟩)
  |false=>
   rw[h2,if_neg aO]at hs;rw[h2]at c1;rw[hR]at c1;refine aj ?_;repeat'(first
     |refine nU ?_
     |refine n3 ?_
     |refine nV ?_
     |refine nX ?_
     |refine nT ?_
     |refine nZ ?_
     |refine nW ?_
     |(refine nY ?_;(refine aj ?_;try exact trivial))
     |((refine bo (c1) ?_;try(refine aj ?_;try exact trivial)))
     |(refine gF λw0 S0 M0 oq=>kI λK hK=> ?_;(refine aj ?_;try exact trivial))
     |(refine gF λw0 S0 M0 oq=>mG Tryz.ty.mixed ax λK hK=> ?_;(refine aj ?_;try exact trivial))
     |(refine hK _ ?_;clear hK K;simp only[bT,bU,if_true,Nat.reduceEqDiff,reduceIte])
     |(show bT _ _ _ _ _;simp only[bT,bU,if_true,Nat.reduceEqDiff,reduceIte])
     |(show gv _ _ _ _;simp only[gv,bT,bU,if_true,Nat.reduceEqDiff,reduceIte])
     |(show bU _ _ _ _ _;simp only[bT,bU,if_true,Nat.reduceEqDiff,reduceIte])
     |(intro hg;first|(exfalso;omega)|(exfalso;contradiction)|skip)
     |apply af
     |(with_reducible rfl)
     |(clear hK;omega)
     |omega)
   all_goals exact⟨j + 1,ae,ae,by rw[hs];rfl,bY⟩
 ·obtain rfl:j=10:=ae;refine aj ?_;repeat'(first
    |refine nU ?_
    |refine n3 ?_
    |refine nV ?_
    |refine nX ?_
    |refine nT ?_
    |refine nZ ?_
    |refine nW ?_
    |(refine nY ?_;(refine aj ?_;try exact trivial))
    |(refine gF λw0 S0 M0 oq=>kI λK hK=> ?_;(refine aj ?_;try exact trivial))
    |(refine gF λw0 S0 M0 oq=>mG Tryz.ty.mixed ax λK hK=> ?_;(refine aj ?_;try exact trivial))
    |(refine hK _ ?_;clear hK K;simp only[bT,bU,if_true,Nat.reduceEqDiff,reduceIte])
    |(show bT _ _ _ _ _;simp only[bT,bU,if_true,Nat.reduceEqDiff,reduceIte])
    |(show gv _ _ _ _;simp only[gv,bT,bU,if_true,Nat.reduceEqDiff,reduceIte])
    |(show bU _ _ _ _ _;simp only[bT,bU,if_true,Nat.reduceEqDiff,reduceIte])
    |(intro hg;first|(exfalso;omega)|(exfalso;contradiction)|skip)
    |apply af
    |(with_reducible rfl)
    |(clear hK;omega)
    |omega)
  all_goals trace_state
theorem aks (F:List (Int×Int))(T:List Int)(mo:Int)(C:List (List ByteArray))(n:List Int)(at_ pl:Nat)(hn:qH mo n):ak aa 141 [.agg (nM F T mo C), .agg (kH n),i64 (at_:Nat),i64 (pl:Nat)] (.ag 210 [.ro (nM F T mo C), .ro (kH n), .ro [i64 (at_:Nat)], .ro [i64 (pl:Nat)]]):=by
 obtain⟨a,b,c,rfl,_⟩:=hn.three;refine cT func141 ntmps141 results141 call141 λw0 S0 M0=> ?_;repeat'(first|(refine j6 0 _ _ rfl rfl ?_;simp only[aU,Nat.reduceAdd])|(refine j6 1 _ _ rfl rfl ?_;simp only[aU,Nat.reduceAdd])|(refine j6 2 _ _ rfl rfl ?_;simp only[aU,Nat.reduceAdd])|(refine j6 3 _ _ rfl rfl ?_;simp only[aU,Nat.reduceAdd])|refine aq ?_|refine au λK hK=> ?_|(intro hg;try exact ai)|exact fin|apply af)
def zS (F:List (Int×Int))(now:List Int):Prop:=now.length=F.length/\∀i,i < now.length->(nth F i).1<=nth now i/\nth now i<=(nth F i).2
instance(F:List (Int×Int)) (now:List Int):Decidable (zS F now):=by unfold zS;infer_instance
theorem ahW (x:Int)(p:Int×Int):ak aa 208 [i64 x,kd p] (.bool (decide (p.1<=x/\x<=p.2))):=by
 have c1:=Rf x p.1 p.2;refine cT func208 ntmps208 results208 call208 λw0 S0 M0=> ?_;repeat'(first|refine aq ?_|refine au λK hK=> ?_|refine cA (c1) ?_|(intro hg;try exact ai)|exact fin|apply af)
 all_goals trace_state
abbrev iF (now:List Int):List D:=now.map λ(x:Int)=>i64 x
theorem Dl (nb nr:Nat)(l:List Int):bN nb nr (iF l)=true:=ec λd hd=>by obtain⟨y,_,rfl⟩:=eJ.1 hd;rfl
theorem ahV (F:List (Int×Int))(now:List Int)(hF:F.length<=3)(hl:now.length=F.length)(b0 b1 b2:Bx)(rw:List Row)(dD:a7 4 rw.length [b0,b1,b2, .mu (iF now)]=true):
  aH aa 207 [.aN 3 0 F.length F.length, .list (F.map kd), .ag 208 []] [b0,b1,b2, .mu (iF now)] rw (aT (.bool (decide (zS F now))) [b0,b1,b2, .mu (iF now)] rw):=by
 refine lD ?_ rfl dD (aY _);refine cU func207 ntmps207 results207 call207 λW0 S0 M0 own β hβ=> ?_;have wX:β.length=4:=by rw[hβ];rfl
 repeat'(first|(show av _ (.loop _) _ _;refine bJ ?_)|refine aq ?_|refine au λK hK=> ?_|(intro hg;try exact ai)|exact fin|apply af)
 refine b_ ?_;refine dn (ι:=Nat) (λj=>[(1, .list (F.map kd)),(2, .ag 208 []),(15, .aN 3 0 F.length F.length),(16,i64 F.length),(17,i64 (j:Nat))]) (λ_=>[b0,b1,b2, .mu (iF now)]) (λ_=>rw)
  (λj=>j<=F.length/\∀i,i < j->(nth F i).1<=nth now i/\nth now i<=(nth F i).2) (λj=>F.length - j) (λ_ _=>⟨by simp[cq,bN],dD⟩) 0 ⟨bD _,λi h=>absurd h (dF i)⟩ (br rfl (by try refine aj ?_;try simp) ⟨[],by simp⟩ ⟨[],by simp⟩) (λj hj=> ?_) (λ_ _=>by rw[wX];exact aY _)
 obtain⟨hj,hi⟩:=hj;by_cases aG:j < F.length
 ·have c1:=ahW (nth now j) (nth F j);have im:(iF now).drop (0 + j * 1)=i64 (nth now j)::(iF now).drop (j + 1):=by
   rw[fK,Ch,v_ (by simp;omega)];simp[nth,show j < now.length by omega]
  have MD:(iF now).drop (0 + j)=i64 (nth now j)::(iF now).drop (j + 1):=by rw[<-im,Ch]
  refine sX (af @im (@MD)) ?_;repeat'(first|(show cC _ _ _ _ _;(refine sX (af @im (@MD)) ?_))|refine bh ?_|((first|refine bj λK hK=> ?_|refine bg ?_|show bb _ _ _ _ _|refine bo (c1) ?_);(refine sX (af @im (@MD)) ?_))|(intro hg;try exact ai)|exact fin|apply af)
  all_goals first
  |exact⟨[],(eu _).symm⟩
  |exact⟨_,rfl⟩
  |(congr 1;symm;rw[decide_eq_false_iff_not];intro h;have:=h.2 j ae;omega)
  |(refine⟨j + 1,⟨ae,λi h=> ?_⟩,ae,br rfl (by try refine aj ?_;try simp) ⟨_,rfl⟩ ⟨[],by simp⟩⟩
    by_cases h9:i=j
    ·rw[h9];omega
    ·exact hi i ae)
 ·obtain rfl:j=F.length:=ae;refine aj ?_;repeat'(first|(show cC _ _ _ _ _;refine aj ?_)|refine aq ?_|refine au λK hK=> ?_|(intro hg;try exact ai)|exact fin|apply af)
  all_goals first
  |exact⟨[],(eu _).symm⟩
  |(congr 1;symm;rw[decide_eq_true_eq];exact⟨hl,λi h=>hi i ae⟩)
theorem ad6 (F:List (Int×Int))(T:List Int)(mo:Int)(now:List Int)(hF:F.length<=3)(hl:now.length=F.length)(b0 b1 b2:Bx)(rw:List Row)(dD:a7 4 rw.length [b0,b1,b2, .mu (iF now)]=true):
  aH aa 138 [.agg (oX F T mo), .aN 3 0 F.length F.length] [b0,b1,b2, .mu (iF now)] rw (aT (.bool (decide (zS F now))) [b0,b1,b2, .mu (iF now)] rw):=by
 have c1:=gC (nr:=rw.length) [.mu (oX F T mo)] (ahV F now hF hl b0 b1 b2 rw dD) rfl dD dD rfl rfl rfl;refine lD ?_ rfl dD (aY _);refine cU func138 ntmps138 results138 call138 λW0 S0 M0 own β hβ=> ?_;repeat'(first|(show av _ (.region 1 _ _) _ _;refine et 3 rfl (λK1 aA=> ?_);refine aj ?_)|(refine aA _ (eZ c1 ?_);simp only[aU,Nat.reduceAdd];refine aj ?_)|(show cC _ _ _ _ _;refine aj ?_)|refine aq ?_|refine au λK hK=> ?_|(intro hg;try exact ai)|exact fin|apply af)
 all_goals first|exact⟨[],(eu _).symm⟩|exact⟨_,rfl⟩
end Go.Proofs.YtafmfhkplgapjaaGreatDoor
namespace Go.Ab
open Go.RowKit Go
end Go.Ab
namespace Go.Proofs.YtafmfhkplgapjaaGreatDoor
open Go.Ab
attribute[local irreducible] av dL dY ak aH IA ez aP fM
end Go.Proofs.YtafmfhkplgapjaaGreatDoor
namespace Go.Proofs.YtafmfhkplgapjaaGreatDoor
set_option maxRecDepth 100000
set_option maxHeartbeats 4000000
open Go.Ab Go.RowKit Go
attribute[local irreducible] av dL dY ak aH IA ez aP fM
def fE (F:List (Int×Int))(T:List Int)(mo:Int)(C:List (List ByteArray)):Nat->Nat->Nat->Int->List Int->List Int->List (List Int)
 |0,_,_,_,_,_=>[]
 |f + 1,pl,at_,sum,n,now=>
  if pl=5 then(if zS F now then[now]else[])
  else if at_=F.length then(if(eC T mo C n at_ pl (sum.tmod 10)).2=true then fE F T mo C f (pl + 1) 0 0 (eC T mo C n at_ pl (sum.tmod 10)).1 now else[])
  else(k6 T mo C n at_ pl 10).flatMap λx=>fE F T mo C f pl (at_ + 1) (sum + (x.1:Nat)) x.2 (now.set at_ (10 * nth now at_ + (x.1:Nat)))
abbrev M8:D:= .ag 137 [.box 0 0, .box 4 0, .box 1 0, .box 2 0, .box 5 0]
abbrev lf (A:List (List Int)):Row:=⟨true,24,1,A.map ints⟩
theorem afv {l:List Int}{d:D}(h:d∈l.map (D.int .i64)):d.cells.length=1:=by
 obtain⟨y,_,rfl⟩:=eJ.1 h;rfl
theorem CZ {p q:Prop}(k:q)(h:p=q:=by simp -implicitDefEqProofs only[go_sem,j5,aU,Nat.reduceAdd,Nat.reduceSub,Nat.reduceMul,Nat.reduceLT,Nat.reduceLeDiff,Nat.reduceEqDiff,Nat.reduceBEq,Int.reduceLT,Int.reduceLE,Int.reduceToNat,Int.reduceAdd,Int.reduceSub,Int.reduceMul,Int.reduceNeg,Int.reduceEq,reduceCtorEq,eq_self,ne_eq,not_false_eq_true,if_true,reduceIte,beq_self_eq_true,a_,List.length_nil,List.nil_append,List.append_nil,Nat.zero_add]<;>rfl):p:=h.symm▸k
theorem aj6 (now:List Int)(hn:now.length<=100)(h0:now≠[]):aH aa 139 [ints now] [] [] (λd _ aD=>d= .own 0/\aD=[⟨true,3,1,iF now⟩]):=by
 refine cU func139 ntmps139 results139 call139 λW0 S0 M0 own β hβ=> ?_;have hc:∀x∈now.map (D.int .i64),x.cells≠[]:=λx hx=>by obtain⟨y,_,rfl⟩:=eJ.1 hx;simp[D.cells]
 repeat'(first|(show av _ (.region 1 _ _) _ _;refine oK 1 (N4 _ 24 (.tmp 3) (some 4)) (λ_ _ h=>aP.nil h) rfl rfl (λK1 aA=> ?_);(refine CZ ?_))|(refine aA _ ⟨(bC rfl),ax,_,rfl,λrX=>absurd (List.map_eq_nil_iff.1 rX) h0,λ_=> ?_,hc⟩<;>clear aA K1<;>(refine CZ ?_))|(refine alp (t:=24) (e:=3) ax (by rw[show aC aa 3=1 from by kernel_rfl];decide) (bC rfl) λK hK=> ?_;rw[show aC aa 3=1 from by kernel_rfl];(refine CZ ?_))|(show cC _ _ _ _ _;(refine CZ ?_))|(exact afv hg)|refine bh ?_|((first|refine bj λK hK=> ?_|refine bg ?_|show bb _ _ _ _ _);(refine CZ ?_))|(intro hg;try exact ai)|exact fin|apply af)
 all_goals trace_state
theorem ahr {c:Ctx}{s:St}{y:Operand}{ys cs:List D}{i off n cap:Nat}(hy:s.ev y= .aN i off n cap)(hb:s.bx[i]? =some (.mu cs))(hle:off + n<=cs.length)(lg:(cs.drop off).take n=ys)(hint:∀d∈ys,∃z:Int,d= .int .i64 z)(eO:n<=cap):
  ∀(a:Act) (w:World) (g:Gh),RG c s a w g->∀vs:List Value,vs.length=([]:List D).length->(∀(q:Nat) (d:D),([]:List D)[q]? =some d->Rel w g (vs.getD q Go.undef) d)->((#[y]:Array Operand).toList.map a.eval++vs).length=[D.list ys].length/\∀(q:Nat) (x:D),[D.list ys][q]? =some x->Rel w ⟨IW w,[],[],g.M⟩ (((#[y]:Array Operand).toList.map a.eval++vs).getD q Go.undef) x:=by
 intro a w g h vs wZ _;obtain rfl:vs=[]:=List.length_eq_zero_iff.1 wZ;refine⟨rfl,λq x hq=> ?_⟩
 match q,hq with
 |0,hq=>
  simp only[zX,Option.some.injEq]at hq;subst hq;have L3:yo s.bx (s.ev y) (λzs=>zs=ys):=by
   rw[hy,VI];simp only[nE,hb,a_];exact⟨hle,lg⟩
  obtain⟨zs,A,cp,u,rfl,LV,hm,cV⟩:=Pp h (h.ev y) L3;have px:zs.all D.one=true:=List.all_eq_true.2 λd hd=>by obtain⟨z,rfl⟩:=hint d hd;rfl
  have fv:=EJ hint;have mY:=h.ev y;rw[hy]at mY;have r8:zs.length<=cp:=by
   generalize a.eval y=v at LV mY;subst LV;cases mY;exact eO
  show Rel w _ (a.eval y) _;rw[LV];refine .list _ A zs.length cp zs 1 u rfl (λx hx=>by obtain⟨z,rfl⟩:=hint x hx;rfl) r8 (λq hq=> ?_) (λq d hd=> ?_)
  ·rw[fv]at hq;obtain⟨ad,e1,e2,e3⟩:=hm px q hq;exact⟨ad,e1,e2,⟨_,e2⟩,e3⟩
  ·rw[fv]at hd;have h5:=cV px q d hd;obtain⟨z,rfl⟩:=hint d (ey hd);generalize u q=x at h5;cases h5;exact .int _ _ _
 |q + 1,hq=>simp at hq
theorem QZ (l:List Int)(r:Nat):(l.map λ(x:Int)=>i64 x).map (gY r)=l.map λ(x:Int)=>i64 x:=by
 rw[List.map_map];rfl
theorem Qd (l:List Int)(i:Nat)(v:Int)(h:i < l.length):(iF l).take (0 + i * 1)++[i64 v]++(iF l).drop (0 + i * 1 + 1)=iF (l.set i v):=by
 rw[fK,Ch];have:iF (l.set i v)=(iF l).set i (i64 v):=by simp[List.map_set]
 rw[this,List.set_eq_take_append_cons_drop,if_pos (by simpa using h)];simp
theorem ab0 (A:List (List Int))(x:List Int):(A++[x]).map ints=A.map ints++[ints x]:=by rw[List.map_append];rfl
theorem aaT {ops:Array Oper}(bP:ops=dA Tryz.f137 3)(w0:World)(S0:Addr->Prop)(e9:MM)(own:Nat->Prop)(β:List Nat)(F:List (Int×Int))(Tu:List Int)(mo:Int)(C:List (List ByteArray))(now n:List Int)(A:List (List Int))(x6 x7 x8:Int)(hA:A.length<=1000000)(hn:now.length<=100)(bz:now≠[])(hl:now.length=F.length):
  jN ⟨aa,w0,S0,e9,none,own,β⟩ 3 ops 79 [(0,24,λL=>bif L 4 then .undef else .own 0),(1,25,λL=> .aN 3 0 F.length F.length),(2,26,λL=> .own 1),(3,27,λL=> .list [ints now]),(4,28,λL=> .own 0)] [(4, .box 0 0),(5, .box 4 0),(6, .box 1 0),(7, .box 2 0),(8, .box 5 0),(9, .box 6 0),(10, .box 7 0),(11, .box 8 0),(12, .box 9 0)] (λL=>[.mu (nM F Tu mo C), .mu [bif L 5 then .own 0 else bif L 4 then .undef else .own 0], .mu [i64 F.length], .mu (iF now), .mu [.aN 3 0 F.length F.length], .mu [M8], .mu [i64 x6], .mu [i64 x7], .mu [i64 x8], .mu (kH n)]) (λL=>[⟨true,24,1,bif L 4 then A.map ints++[ints now]else A.map ints⟩]++bif L 2 then[⟨true,3,1,iF now⟩]else[]):=by
 have pz1:(iF now).map (gY 0)=iF now:=QZ _ _;have pz2:(kH n).map (gY 0)=kH n:=QZ _ _;have hE:=(af @pz1 @pz2);simp only[dA,eH,e8,Tryz.f137,fw,Nat.reduceBEq,bK,if_false,if_true,eI,eu,eR,iC,reduceIte,eq_self]at bP;subst bP;refine jY Tryz.ty.mixed rfl [(0,[4,8,10]),(0,[5,8,10]),(1,[4,8,10]),(3,[5,8,10]),(4,[1,5,7,10]),(5,[5,9])] [(2,[3,8,10])] ax rfl rfl iv ?_ iw;intro T b hT hb pk pj;have hR:∀L m,bq L L T b m=pS L L _ b m:=λL m=>yy (F:=L) (V:=L) (b:=b) hT m;simp only[List.forall_mem_cons,ny,false_implies,implies_true,and_true];intro L o hX ho;cases ho;obtain⟨hL,hX⟩:=hX
 replace hX:=af hL hX
 simp only[FA,Nat.reduceDiv,Nat.reduceMod,Nat.reduceBEq,and_true]at hX;rw[Gy hL pk pj (by rw[hT];rfl) (by rw[hT];simp[more])];try simp only[hX,jS,kr,ne_eq,Nat.reduceEqDiff,not_false_eq_true,cond_true,cond_false,eR,eI,eu]
 have f25:bq L L T b 25= .aN 3 0 F.length F.length:=by simp only[hX,hR,congrFun hb,l_,lZ,fN,gk,kO,put,Nat.reduceEqDiff,Nat.reduceBEq,cond_true,cond_false,if_true,if_false,reduceIte]
 refine fS.qO rfl ?_;refine aP.fresh (aj6 now hn bz) rfl (λd hd=>by obtain⟨y,_,rfl⟩:=eJ.1 hd;exact⟨_,rfl⟩) (bC rfl) rfl (ahr (ys:=now.map (D.int .i64)) (cs:=iF now) (i:=3) (off:=0) (n:=F.length) (cap:=F.length) f25 rfl (by simp;omega) (by rw[List.drop_zero];exact List.take_of_length_le (by simp;omega)) (λd hd=>by obtain⟨y,_,rfl⟩:=eJ.1 hd;exact⟨_,rfl⟩) (aY _)) ?_;exact bX.of_eq rfl
structure Xt (F:List (Int×Int))(T:List Int)(mo:Int)(C:List (List ByteArray))(f pl at_:Nat)(sum:Int)(n now:List Int):Prop where
 hT:zL T
 hC:wj F.length C
 ln:0<=mo/\mo<=2
 hF:1<=F.length/\F.length<=3
 hn:qH mo n
 hl:now.length=F.length
 hp:pl<=5
 ha:at_<=F.length
 hf:(5 - pl) * (F.length + 1) + (F.length - at_) + 1<=f
 hs:0<=sum/\sum<=9 * at_
 hb:∀i,i < F.length->0<=nth now i/\nth now i < 10 ^ (pl + if i < at_ then 1 else 0)
abbrev vO (F:List (Int×Int))(T:List Int)(mo:Int)(C:List (List ByteArray))(now:List Int):List Bx:=[.mu (nM F T mo C), .mu [.own 0], .mu [i64 F.length], .mu (iF now), .mu [.aN 3 0 F.length F.length], .mu [M8]]
theorem BU (F:List (Int×Int))(T:List Int)(mo:Int)(C:List (List ByteArray))(now:List Int):a7 6 1 (vO F T mo C now)=true:=by
 simp only[vO,a7,Dl];rfl
theorem abo (F:List (Int×Int))(T:List Int)(mo:Int)(C:List (List ByteArray)):∀(f pl at_:Nat) (sum:Int) (n now:List Int) (A:List (List Int)),Xt F T mo C f pl at_ sum n now->A.length + (fE F T mo C f pl at_ sum n now).length<=1000000->
  aH aa 137 [i64 (pl:Nat),i64 (at_:Nat),i64 sum, .agg (kH n), .box 0 0, .box 4 0, .box 1 0, .box 2 0, .box 5 0] (vO F T mo C now) [lf A] (aT (.aF []) (vO F T mo C now) [lf (A++fE F T mo C f pl at_ sum n now)]):=by
 intro f;induction f with
 |zero=>intro pl at_ sum n now A h;have:=h.hf;omega
 |succ f ih=>
  intro pl at_ sum n now A h hlen;obtain⟨hT,hC,ln,hF,hn,hl,hp,ha,hf,hs,hb⟩:=h;have bz:now≠[]:=λe=>by rw[e]at hl;simp at hl;omega
  obtain⟨a,b,c,rfl,mr,iZ,qY⟩:=hn.three;refine lD ?_ rfl (BU _ _ _ _ _) (aY _);by_cases h5:pl=5
  ·subst h5;have c1:=gC (nr:=1) [.mu [.aN 3 0 F.length F.length], .mu [M8], .mu [i64 5], .mu [i64 (at_:Nat)], .mu [i64 sum], .mu (kH [a,b,c])] (ad6 F T mo now hF.2 hl (.mu (nM F T mo C)) (.mu [.own 0]) (.mu [i64 F.length]) [lf A] (by simp only[a7,Dl];rfl)) rfl (by simp only[a7,Dl];rfl) (by simp only[a7,Dl];rfl) rfl rfl rfl;by_cases hM:zS F now
   ·rw[decide_eq_true hM]at c1;have hw:fE F T mo C (f + 1) 5 at_ sum [a,b,c] now=[now]:=by simp[fE,hM]
    rw[hw]at hlen⊢;refine cU Jk Jf Jc Jn λW0 S0 M0 own β hβ=> ?_;repeat'(first|(show av _ (.region 3 _ true) _ _;refine bJ ?_)|(show av _ (.region 2 _ _) _ _;refine et 3 rfl (λK1 aA=> ?_);refine aj ?_)|(refine aA _ (eZ c1 ?_);simp only[aU,Nat.reduceAdd];refine aj ?_)|refine aq ?_|refine au λK hK=> ?_|(intro hg;try exact ai)|exact fin|apply af)
    refine b_ ?_;refine ep (jQ [(4, .box 0 0),(5, .box 4 0),(6, .box 1 0),(7, .box 2 0),(8, .box 5 0),(9, .box 6 0),(10, .box 7 0),(11, .box 8 0),(12, .box 9 0)] (by simp[put])) ?_;refine aaT (by rfl) W0 S0 M0 own β F T mo C now [a,b,c] A 5 at_ sum (by simp at hlen;omega) ae bz hl _ ?_;simp only[e_,cond_true,cj,bH,eR,eI];rw[<-ab0];repeat'(first|(show cC _ _ _ _ _;refine aj ?_)|refine aq ?_|refine au λK hK=> ?_|(intro hg;try exact ai)|exact fin|apply af)
    all_goals first|exact⟨[],rfl⟩|exact⟨_,rfl⟩
   ·rw[decide_eq_false hM]at c1;have hw:fE F T mo C (f + 1) 5 at_ sum [a,b,c] now=[]:=by simp[fE,hM]
    rw[hw,eu];refine cU Jk Jf Jc Jn λW0 S0 M0 own β hβ=> ?_;repeat'(first|(show av _ (.region 2 _ _) _ _;refine et 3 rfl (λK1 aA=> ?_);refine aj ?_)|(refine aA _ (eZ c1 ?_);simp only[aU,Nat.reduceAdd];refine aj ?_)|(show cC _ _ _ _ _;refine aj ?_)|refine aq ?_|refine au λK hK=> ?_|(intro hg;try exact ai)|exact fin|apply af)
    all_goals first|exact⟨[],rfl⟩|exact⟨_,rfl⟩
  ·have gn:pl < 5:=ae;have hs9:0<=sum.tmod 10/\sum.tmod 10<=9:=by
    rw[Int.tmod_eq_emod_of_nonneg hs.1];omega
   by_cases im:at_=F.length
   ·have c2:=Rb F T mo C [a,b,c] F.length at_ pl (sum.tmod 10) hT hC hn ln ha hF.2 gn hs9;have jo:=KQ (T:=T) (at_:=at_) (pl:=pl) (f:=sum.tmod 10) hC hn;have hw:fE F T mo C (f + 1) pl at_ sum [a,b,c] now=if(eC T mo C [a,b,c] at_ pl (sum.tmod 10)).2=true then fE F T mo C f (pl + 1) 0 0 (eC T mo C [a,b,c] at_ pl (sum.tmod 10)).1 now else[]:=by simp[fE,h5,im]
    rw[hw]at hlen⊢;clear hw;generalize eC T mo C [a,b,c] at_ pl (sum.tmod 10)=R at *;obtain⟨a',b',c',hR⟩:∃a' b' c':Int,R.1=[a',b',c']:=by
     match h:R.1,jo.1 with
     |[x,y,z],_=>exact⟨x,y,z,rfl⟩
    cases h2:R.2 with
    |true=>
     simp only[h2,if_true,reduceIte]at hlen⊢;have Bj:=jo.2 h2;rw[h2]at c2;rw[hR]at c2 hlen Bj⊢;have i1:=ih (pl + 1) 0 0 [a',b',c'] now A ⟨hT,hC,ln,hF,Bj,hl,ae,ae,(by
      have:(5 - pl) * (F.length + 1)=(5 - (pl + 1)) * (F.length + 1) + (F.length + 1):=by
       rw[show 5 - pl=(5 - (pl + 1)) + 1 by omega,Nat.add_mul,Nat.one_mul]
      omega),ae,(λi hi=>by
      have:=hb i hi;rw[if_pos ae]at this;simpa using this)⟩ hlen
     have c3:=gC (nr:=1) [.mu [i64 (pl:Nat)], .mu [i64 (at_:Nat)], .mu [i64 sum], .mu (kH [a,b,c]), .mu (kH [a',b',c'])] i1 rfl (BU _ _ _ _ _) (BU _ _ _ _ _) rfl rfl rfl;refine cU Jk Jf Jc Jn λW0 S0 M0 own β hβ=> ?_;repeat'(first|(show av _ (.region 7 _ _) _ _;refine et 4 rfl (λK1 aA=> ?_);refine aj ?_)|(refine aA _ (eZ c3 ?_);simp only[aU,Nat.reduceAdd];refine aj ?_)|(show cC _ _ _ _ _;refine aj ?_)|refine aq ?_|refine au λK hK=> ?_|refine cA (c2) ?_|(intro hg;try exact ai)|exact fin|apply af)
     all_goals first|exact⟨[],rfl⟩|exact⟨_,rfl⟩
    |false=>
     simp only[h2,bK,if_false,reduceIte,eu]at hlen⊢;rw[h2]at c2;rw[hR]at c2;refine cU Jk Jf Jc Jn λW0 S0 M0 own β hβ=> ?_;repeat'(first|(show cC _ _ _ _ _;refine aj ?_)|refine aq ?_|refine au λK hK=> ?_|refine cA (c2) ?_|(intro hg;try exact ai)|exact fin|apply af)
     all_goals first|exact⟨[],rfl⟩|exact⟨_,rfl⟩
   ·have H2:at_ < F.length:=ae;have c4:=aks F T mo C [a,b,c] at_ pl hn;have it:=akt F T mo C [a,b,c] F.length at_ pl hT hC hn ln ha hF.2 gn;have hL:=Wq (T:=T) (mo:=mo) (at_:=at_) (pl:=pl) hC hn 10;have hw:fE F T mo C (f + 1) pl at_ sum [a,b,c] now=(k6 T mo C [a,b,c] at_ pl 10).flatMap (λx=>fE F T mo C f pl (at_ + 1) (sum + (x.1:Nat)) x.2 (now.set at_ (10 * nth now at_ + (x.1:Nat)))):=by simp[fE,h5,im]
    rw[hw]at hlen⊢;clear hw;generalize k6 T mo C [a,b,c] at_ pl 10=L at *;have pA:∀l:List Int,l.length=F.length->(iF l).drop (0 + at_ * 1)=i64 (nth l at_)::(iF l).drop (at_ + 1):=λl hl=>by
     rw[fK,Ch,v_ (by simp;omega)];simp[nth,show at_ < l.length by omega]
    have i_:=pA now hl;obtain⟨nw,D3⟩:∃nw:Nat->List Int,nw=λj=>if j=0 then now else now.set at_ (10 * nth now at_ + ((nth L (j - 1)).1:Nat)):=⟨_,rfl⟩
    obtain⟨pt,xc⟩:∃pt:Nat->List (List Int),pt=λj=>(L.take j).flatMap (λx=>fE F T mo C f pl (at_ + 1) (sum + (x.1:Nat)) x.2 (now.set at_ (10 * nth now at_ + (x.1:Nat)))):=⟨_,rfl⟩;have nw0:nw 0=now:=by rw[D3];rfl
    have nws:∀j,nw (j + 1)=now.set at_ (10 * nth now at_ + ((nth L j).1:Nat)):=λj=>by rw[D3];rfl
    have G2:∀j,(nw j).length=F.length:=λj=>by rw[D3];simp only;split<;>simp[hl]
    have La:∀(j:Nat) (v:Int),(nw j).set at_ v=now.set at_ v:=λj v=>by rw[D3];simp only;split<;>simp
    have pt0:pt 0=[]:=by rw[xc];rfl
    have Dd:∀j,j < L.length->pt (j + 1)=pt j++fE F T mo C f pl (at_ + 1) (sum + ((nth L j).1:Nat)) (nth L j).2 (now.set at_ (10 * nth now at_ + ((nth L j).1:Nat))):=λj hj=>by
     rw[xc];simp only
     rw[List.take_succ_eq_append_getElem hj,List.flatMap_append,show L[j]=nth L j by simp[nth,hj]];simp
    have ptl:pt L.length=L.flatMap (λx=>fE F T mo C f pl (at_ + 1) (sum + (x.1:Nat)) x.2 (now.set at_ (10 * nth now at_ + (x.1:Nat)))):=by rw[xc];simp only;rw[List.take_length]
    have Q7:∀j,j<=L.length->(pt j).length<=(pt L.length).length:=λj hj=>by
     have:∀k,(pt j).length<=(pt (j + k)).length\/L.length < j + k:=λk=>by
      induction k with
      |zero=>exact .inl (aY _)
      |succ k ihk=>
       rcases ihk with h|h
       ·by_cases hk:j + k < L.length
        ·refine .inl ?_;rw[show j + (k + 1)=(j + k) + 1 by omega,Dd _ hk,eQ];omega
        ·exact .inr ae
       ·exact .inr ae
     rcases this (L.length - j)with h|h
     ·rw[show j + (L.length - j)=L.length by omega]at h;exact h
     ·omega
    rw[<-ptl]at hlen⊢;clear D3 xc;refine cU Jk Jf Jc Jn λW0 S0 M0 own β hβ=> ?_;repeat'(first|(show av _ (.rangeFunc _ _ _ _) _ _;refine bJ ?_)|refine bh ?_|((first|refine bj λK hK=> ?_|refine bg ?_|show bb _ _ _ _ _|refine bo (c4) ?_);(refine sX (@i_) ?_))|(intro hg;try exact ai)|exact fin|apply af)
    refine b_ ?_;refine Xe (gf:=210) (cs:=[.ro (nM F T mo C), .ro (kH [a,b,c]), .ro [i64 (at_:Nat)], .ro [i64 (pl:Nat)]]) (cm:=[.ro (nM F T mo C), .ro (kH [a,b,c]), .ro [i64 (at_:Nat)], .ro [i64 (pl:Nat)]]) (xs:=L.map E0) (by try(refine aj ?_;try exact trivial)) (by try(refine aj ?_;try exact trivial)) it (λx hx=>by obtain⟨y,_,rfl⟩:=eJ.1 hx;rfl) aO
     (cS [(4, .box 0 0),(5, .box 4 0),(6, .box 1 0),(7, .box 2 0),(8, .box 5 0),(9, .box 6 0),(10, .box 7 0),(11, .box 8 0),(12, .box 9 0),(15, .box 10 0)]) (λj=>vO F T mo C (nw j)++[.mu [i64 (pl:Nat)], .mu [i64 (at_:Nat)], .mu [i64 sum], .mu (kH [a,b,c]), .mu [i64 (nth now at_)]]) (λj=>[lf (A++pt j)]) 11
     (by rw[nw0,pt0,eu];exact Hg rfl (by try refine aj ?_;try simp) ⟨_,rfl⟩ ⟨_,rfl⟩) (uZ rfl) (λ_ _=>rfl) ?_ (by rw[hβ];show 6<=11;decide) ?_ ?_
    ·intro j hj;exact⟨λ_=> .undef,qP _ (by simp only[vO,eR,eI,a7,Dl];rfl)⟩
    ·intro j x hx w1 S1 M1 l o1 b1 gz;rw[List.getElem?_map,Option.map_eq_some_iff]at hx;obtain⟨y,hy,rfl⟩:=hx;have dE:=(List.getElem?_eq_some_iff.1 hy).1;have rP:nth L j=y:=by simp[nth,hy]
     have LM:=hL y (ey hy);obtain⟨fg,m⟩:=y;obtain⟨a',b',c',rfl,_⟩:=LM.2.three;have hfg:fg < 10:=LM.1;have mY:=hb at_ H2;rw[if_neg (Nat.lt_irrefl _),Nat.add_zero]at mY;have TA:(10:Int) ^ pl<=10000:=by
      have:pl=0\/pl=1\/pl=2\/pl=3\/pl=4:=ae;rcases this with rfl|rfl|rfl|rfl|rfl<;>decide
     have pw:(10:Int) ^ (pl + 1)=10 * 10 ^ pl:=by rw[Int.pow_succ,Int.mul_comm]
     have ku:10 * nth now at_ + (fg:Nat) < 10 * (10:Int) ^ pl:=ae;obtain⟨v,hv⟩:∃v:Int,v=10 * nth now at_ + (fg:Nat):=⟨_,rfl⟩;have aM:=Qd (nw j) at_ v (by rw[G2];exact H2);rw[La]at aM;have A6:=Dd j dE;rw[rP]at A6;simp only at A6;rw[<-hv]at A6;have D5:=nws j;rw[rP]at D5;simp only at D5;rw[<-hv]at D5;have hle:=Q7 (j + 1) dE;rw[A6,eQ]at hle;have i1:=ih pl (at_ + 1) (sum + (fg:Nat)) [a',b',c'] (now.set at_ v) (A++pt j) ⟨hT,hC,ln,hF,LM.2,by simp[hl],hp,ae,ae,ae,(λi hi=>by
      by_cases Uj:i=at_
      ·subst Uj;have e1:nth (now.set i v) i=v:=by simp[nth,hl,hi]
       rw[e1,if_pos ae,pw,hv];omega
      ·have e1:nth (now.set at_ v) i=nth now i:=by simp[nth,gj (Ne.symm Uj)]
       have:=hb i hi;rw[e1];by_cases aG:i < at_
       ·rw[if_pos aG]at this;rw[if_pos ae];exact this
       ·rw[if_neg aG]at this;rw[if_neg ae];exact this)⟩ (by rw[eQ];omega)
     rw[kK,<-A6]at i1;have c5:=gC (nr:=1) [.mu [i64 (pl:Nat)], .mu [i64 (at_:Nat)], .mu [i64 sum], .mu (kH [a,b,c]), .mu [i64 (nth now at_)], .mu (kH [a',b',c'])] i1 rfl (BU _ _ _ _ _) (BU _ _ _ _ _) rfl rfl rfl;show av _ _ _ ⟨79,nN [57,58] _ _,_,_⟩;simp only[nN,D5];clear D5 A6 hle i1 hlen ih hb hf Q7 Dd La hL it;refine sX (af @aM (hv).symm) ?_;repeat'(first|(show av _ (.region 13 _ _) _ _;refine et 8 rfl (λK1 aA=> ?_);(refine sX (af @aM (hv).symm) ?_))|(refine aA _ (eZ c5 ?_);simp only[aU,Nat.reduceAdd];(refine sX (af @aM (hv).symm) ?_))|refine bh ?_|((first|refine bj λK hK=> ?_|refine bg ?_|show bb _ _ _ _ _);(refine sX (af @aM (hv).symm) ?_))|(intro hg;try exact ai)|exact fin|apply af)
     ·rw[G2];omega
     ·simp only[GJ];exact⟨rfl,λ_=> .inl rfl,⟨_,rfl⟩,⟨[],rfl⟩⟩
    ·have aM:=Qd (nw L.length) at_ (nth now at_) (by rw[G2];exact H2);rw[La,show now.set at_ (nth now at_)=now by
      refine List.ext_getElem? λi=> ?_;by_cases hi:at_=i
      ·subst hi;simp[nth,hl,H2]
      ·rw[gj hi]]at aM
     rw[show(L.map E0).length=L.length by simp];have DR:0 + at_ * 1 + 1<=(nw L.length).length:=by rw[G2];omega
     show av _ _ _ _;refine kI λK hK=> ?_;refine sX (af @aM (af @DR (@true_and))) ?_;refine⟨ae, ?_⟩;refine hK _ ?_;clear hK K;show cC _ _ _ _ _;refine sX (af @aM (af @DR (@true_and))) ?_;exact⟨rfl,⟨_,rfl⟩,⟨[],rfl⟩⟩
end Go.Proofs.YtafmfhkplgapjaaGreatDoor
namespace Go.Proofs.YtafmfhkplgapjaaGreatDoor
set_option maxRecDepth 100000
set_option maxHeartbeats 4000000
open Go.Ab
attribute[local irreducible] av dL dY ak aH cY IA ez aP fM
theorem F6 {a:D}{l:List D}{k:D->Prop}:ry (a::l) 0 k=k a:=by simp[ry]
theorem F5 {a b:D}{l:List D}{k:D->Prop}:ry (a::b::l) 1 k=k b:=by simp[ry]
def nn (k:Nat):Nat:=5 * (k + 1) + k + 1
def nD (k:Nat):List Int:=cD k 0
theorem sr0 {F:List (Int×Int)}{T:List Int}{mo:Int}{C:List (List ByteArray)}(hT:zL T)(hC:wj F.length C)(ln:0<=mo/\mo<=2)(hF:1<=F.length/\F.length<=3):Xt F T mo C (nn F.length) 0 0 0 [0,0,0] (nD F.length):=
 ⟨hT,hC,ln,hF,zD ae ae ae,by simp[nD],ae,ae,by unfold nn;omega,ae,λi hi=>by
  have:nth (nD F.length) i=0:=by simp[nth,nD,hi]
  rw[this];simp⟩
theorem amY (c:Nat)(h:48<=c/\c<=57):ak aa 205 [.int .i32 c] (.bool true):=by
 refine cT func205 ntmps205 results205 call205 λw0 S0 M0=> ?_;repeat'(first|refine aq ?_|refine au λK hK=> ?_|(intro hg;try exact ai)|exact fin|apply af)
 all_goals first|omega|(congr 1;exact decide_eq_true ae)
abbrev aX (g:List ByteArray):D:= .list (g.map D.str)
theorem afn (l:List (List ByteArray))(gf:FuncId)(cs:List D)(aw:Cl cs)(p:List ByteArray->Bool)(hl:l.length<=9223372036854775807)(hp:∀i,i < l.length->ak aa gf (aX (nth l i)::cs) (.bool (p (nth l i)))):ak aa 202 [.list (l.map aX), .ag gf cs] (i64 (rf p l)):=by
 refine cT func202 ntmps202 results202 call202 λw0 S0 M0=> ?_;repeat'(first|refine bh ?_|((first|refine bj λK hK=> ?_|refine bg ?_|show bb _ _ _ _ _);(refine sX (af @aw.1 (@aw.2)) ?_))|(intro hg;try exact ai)|exact fin|apply af)
 refine dn (ι:=Nat) (λj=>[(0, .list (l.map aX)),(1, .ag gf cs),(6, .list (l.map aX)),(7,i64 l.length),(8,i64 j)]) (λ_=>[]) (λ_=>[])
  (λj=>j<=l.length/\∀i,i < j->p (nth l i)=false) (λj=>l.length - j) (λ_ _=>⟨by simp[cq,bN,aw.names],rfl⟩) 0 ⟨bD _,λi h=>absurd h (dF i)⟩ (br rfl (by try refine sX (af @aw.1 (@aw.2)) ?_;try simp) ⟨_,rfl⟩ ⟨_,rfl⟩) (λj ⟨hj,hi⟩=> ?_)
 refine sX (af @aw.1 (@aw.2)) ?_;repeat'(first|refine bh ?_|((first|refine bj λK hK=> ?_|refine bg ?_|show bb _ _ _ _ _|refine bo (hp j ae) ?_);(refine sX (af @aw.1 (@aw.2)) ?_))|(intro hg;try exact ai)|exact fin|apply af)
 all_goals first
  |(congr 1;exact(zu ae hi (by assumption)).symm)
  |(refine⟨j + 1,⟨ae,λi h=> ?_⟩,ae,br rfl (by try refine sX (af @aw.1 (@aw.2)) ?_;try simp) ⟨_,rfl⟩ ⟨_,rfl⟩⟩
    by_cases h9:i=j
    ·rw[h9];assumption
    ·exact hi i ae)
  |(congr 1;exact(zw λi h=>hi i ae).symm)
  |skip
theorem akn (l:List (List ByteArray))(gf:FuncId)(cs:List D)(aw:Cl cs)(p:List ByteArray->Bool)(hl:l.length<=9223372036854775807)(hp:∀i,i < l.length->ak aa gf (aX (nth l i)::cs) (.bool (p (nth l i)))):ak aa 134 [.list (l.map aX), .ag gf cs] (.bool (l.any p)):=by
 refine cT func134 ntmps134 results134 call134 λw0 S0 M0=> ?_;repeat'(first|refine bh ?_|((first|refine bj λK hK=> ?_|refine bg ?_|show bb _ _ _ _ _|refine bo (afn l gf cs aw p hl hp) ?_);(refine sX (af @aw.1 (@aw.2)) ?_))|(intro hg;try exact ai)|exact fin|apply af)
 all_goals rw[zx]
section
open Go.RowKit Go
end
theorem ahe (g:List ByteArray):∀x∈[aX g],x.cells.length=1:=λx hx=>by rw[oQ.1 hx];rfl
theorem ann (g:List ByteArray)(bx:List Bx)(rw:List Row):aH aa 41 [.list [aX g]] bx rw (λd aB aD=>∃m cap,1<=cap/\d= .aN bx.length 0 1 cap/\aB=bx++[.mu (aX g::cD m .undef)]/\aD=rw):=by
 refine cU func41 ntmps41 results41 call41 λW0 S0 M0 own β hβ=> ?_;repeat'(first|(show av _ (.region 1 _ _) _ _;refine oK 1 (E6 _ 39 (.tmp 3) (some 4)) (λ_ _ h=>aP.dup h) rfl rfl (λK1 aA=> ?_);refine aj ?_)|(refine aA _ ⟨(bC rfl), ?_⟩;clear aA K1;refine aj ?_)|(show cC _ _ _ _ _;refine aj ?_)|refine aq ?_|refine au λK hK=> ?_|(intro hg;try exact ai)|exact fin|apply af)
 all_goals first
  |(exact ahe g _ (by assumption))
  |exact⟨_,_,hg,rfl,rfl⟩
  |(exact⟨[],rfl⟩)
theorem VJ (g:List ByteArray)(hl:g.length<=1000000):ak aa 42 [aX g] (aX g):=by
 refine cT func42 ntmps42 results42 call42 λw0 S0 M0=> ?_;repeat'(first|(show av _ (.region 1 _ _) _ _;refine oK 1 (uE _ 79 (.tmp 3) (some 4)) (λ_ _ h=>aP.xF h) rfl rfl (λK1 aA=> ?_);refine aj ?_)|(refine aA _ (xM 9 1 16 (g.map D.str) (bC rfl) ax ax ax ax rfl aE aE (λx hx=>by obtain⟨y,_,rfl⟩:=eJ.1 hx;rfl) (by rw[List.length_map];omega) ?_);clear aA K1;refine aj ?_)|refine aq ?_|refine au λK hK=> ?_|(intro hg;try exact ai)|exact fin|apply af)
 all_goals first|rfl|skip
def bW (l:List (List Int)):Nat->Int×Int
 |0=>(0,0)
 |j + 1=>(min (if j=0 then nth (nth l 0) 0 else(bW l j).1) (nth (nth l j) 0),max (if j=0 then nth (nth l 0) 0 else(bW l j).2) (nth (nth l j) 0))
def FO (l:List (List Int)):Prop:=l.length<=1000000/\∀i,i < l.length->0 < (nth l i).length/\(nth l i).length<=100000/\0<=nth (nth l i) 0/\nth (nth l i) 0<=99999
theorem Gt {l:List (List Int)}(h:FO l):∀j,j<=l.length->0<=(bW l j).1/\(bW l j).1<=99999/\0<=(bW l j).2/\(bW l j).2<=99999
 |0,_=>by simp[bW]
 |j + 1,hj=>by
  have h1:=Gt h j ae;have h2:=h.2 j ae;have h3:=h.2 0 ae;unfold bW;by_cases h0:j=0
  ·simp only[h0,if_true];omega
  ·simp only[h0,if_false];omega
theorem Yv {ops:Array Oper}(bP:ops=dA Tryz.f43 8)(w0:World)(S0:Addr->Prop)(e9:MM)(own:Nat->Prop)(β:List Nat)(s:aJ)(R0:Row)(n cap na jj:Nat)(kz cost dy ee:Int)(cs gs:List D)(p0 p1:Int)(c0:Bool)(ll:List (List Int))(m:List Int)(hm:0 < m.length/\m.length<=100000):
  jN ⟨aa,w0,S0,e9,none,own,β⟩ 8 ops 70 [(0,40,λL=>ints m),(1,41,λL=> .ro [i64 (nth m 0)]),(2,42,λL=>i64 (nth m 0)),(3,43,λL=>ints m),(4,44,λL=> .ro [i64 (nth m 0)]),(5,45,λL=>i64 (nth m 0)),(7,46,λL=> .box 7 0),(9,47,λL=> .box 7 1)] [(0, .box 3 0),(1, .box 4 0),(2, .box 5 0),(3, .box 6 0),(4, .box 7 0),(5, .box 8 0),(7, .list (ll.map ints)),(8,i64 ee),(10,ints m),(31, .list (ll.map ints)),(32,i64 ll.length),(33,i64 (jj:Nat))] (λL=>[.mu (ay s n cap cost), .mp [], .mu cs, .mu [.box 0 0], .mu [i64 kz], .mu [i64 dy], .mu [.list gs], .mu [bif L 8 then i64 (nth m 0)else bif L 6 then i64 0 else i64 p0,bif L 10 then i64 (nth m 0)else bif L 6 then i64 0 else i64 p1], .mu [.bool c0]]) (λL=>[R0,az na]):=by
 simp only[dA,eH,e8,Tryz.f43,fw,Nat.reduceBEq,bK,if_false,if_true,eI,eu,eR,iC,reduceIte,eq_self]at bP;subst bP;exact jY Tryz.ty.mixed rfl [(0,[12,16,20]),(0,[13,16,20]),(1,[1,12,16,20]),(1,[1,13,16,20]),(2,[3,12,16,20]),(2,[3,13,16,20]),(3,[12,16,20]),(3,[13,16,20]),(3,[13,17,20]),(4,[7,12,16,20]),(4,[7,13,16,20]),(4,[7,13,17,20]),(5,[9,12,16,20]),(5,[9,13,16,20]),(5,[9,13,17,20]),(6,[16,20]),(7,[13,16,20]),(8,[5,13,15,20]),(9,[13,17,20]),(10,[11,13,17,19])] [] ax rfl rfl iv js iw
theorem Pg {ops:Array Oper}(bP:ops=dA Tryz.f43 9)(w0:World)(S0:Addr->Prop)(e9:MM)(own:Nat->Prop)(β:List Nat)(s:aJ)(R0:Row)(n cap na jj:Nat)(kz cost dy ee:Int)(cs gs:List D)(p0 p1:Int)(c0:Bool)(ll:List (List Int))(m:List Int)(hm:0 < m.length/\m.length<=100000):
  jN ⟨aa,w0,S0,e9,none,own,β⟩ 9 ops 70 [(0,48,λL=> .box 7 0),(1,49,λL=>i64 p0),(2,50,λL=>ints m),(3,51,λL=> .ro [i64 (nth m 0)]),(4,52,λL=>i64 (nth m 0)),(5,53,λL=>i64 (min p0 (nth m 0))),(6,54,λL=> .box 7 1),(7,55,λL=>i64 p1),(8,56,λL=>ints m),(9,57,λL=> .ro [i64 (nth m 0)]),(10,58,λL=>i64 (nth m 0)),(11,59,λL=>i64 (max p1 (nth m 0))),(13,60,λL=> .box 7 0),(15,61,λL=> .box 7 1)] [(0, .box 3 0),(1, .box 4 0),(2, .box 5 0),(3, .box 6 0),(4, .box 7 0),(5, .box 8 0),(7, .list (ll.map ints)),(8,i64 ee),(10,ints m),(31, .list (ll.map ints)),(32,i64 ll.length),(33,i64 (jj:Nat))] (λL=>[.mu (ay s n cap cost), .mp [], .mu cs, .mu [.box 0 0], .mu [i64 kz], .mu [i64 dy], .mu [.list gs], .mu [bif L 14 then i64 (min p0 (nth m 0))else bif L 12 then i64 0 else i64 p0,bif L 16 then i64 (max p1 (nth m 0))else bif L 12 then i64 0 else i64 p1], .mu [.bool c0]]) (λL=>[R0,az na]):=by
 simp only[dA,eH,e8,Tryz.f43,fw,Nat.reduceBEq,bK,if_false,if_true,eI,eu,eR,iC,reduceIte,eq_self]at bP;subst bP;exact jY Tryz.ty.mixed rfl [(0,[24,28,32]),(1,[1,24,28,32]),(2,[24,28,32]),(2,[25,28,32]),(3,[5,24,28,32]),(3,[5,25,28,32]),(4,[7,24,28,32]),(4,[7,25,28,32]),(5,[3,9,24,28,32]),(5,[3,9,25,28,32]),(6,[24,28,32]),(7,[13,24,28,32]),(8,[24,28,32]),(8,[25,28,32]),(8,[25,29,32]),(9,[17,24,28,32]),(9,[17,25,28,32]),(9,[17,25,29,32]),(10,[19,24,28,32]),(10,[19,25,28,32]),(10,[19,25,29,32]),(11,[15,21,24,28,32]),(11,[15,21,25,28,32]),(11,[15,21,25,29,32]),(12,[28,32]),(13,[25,28,32]),(14,[11,25,27,32]),(15,[25,29,32]),(16,[23,25,29,31])] [] ax rfl rfl iv js iw
theorem F7 (s:aJ)(R0:Row)(n cap na:Nat)(kz cost dy:Int)(cs gs:List D)(aM:s.aL.length<=100)(dS:0<=s.dy/\s.dy<=100)(aw:∀d∈cs,Names 0 0 d)(hk:0<=kz/\kz<=(s.aL.length:Int) - 1)(hr:0<=dy/\dy<=s.dy - 1)(l:List (List Int))(hl:FO l)(ee:Int)(ok cd:Bool)(he:(ee=0/\ok=true/\cd=true)\/(ee=2/\ok=false/\cd=false)\/(ee=5/\ok=true/\cd=false))(ck:ak aa 45 [.agg (oX s.fl s.tu s.mo), .list gs] (.aF [.list (l.map ints), .int .i64 ee])):
  aH aa 43 [.box 3 0, .box 4 0, .box 5 0, .box 6 0, .box 7 0, .box 8 0] [.mu (ay s n cap cost), .mp [], .mu cs, .mu [.box 0 0], .mu [i64 kz], .mu [i64 dy], .mu [.list gs], .mu [i64 0,i64 0], .mu [.bool false]] [R0,az na] (aT (.bool ok) [.mu (ay s n cap cost), .mp [], .mu cs, .mu [.box 0 0], .mu [i64 kz], .mu [i64 dy], .mu [.list gs], .mu [i64 (bW l l.length).1,i64 (bW l l.length).2], .mu [.bool cd]] [R0,az na]):=by
 have bE:∀nb nr,bN nb nr cs=true:=λnb nr=>ec λd hd=>eG (aw d hd);have T4:∀nb nr,bN nb nr (l.map ints)=true:=λnb nr=>ec λd hd=>by
  obtain⟨a,_,rfl⟩:=eJ.1 hd;simp only[ints,cq]
 have c1:=Hp s (.aN 2 0 n cap) (.own 0) (.bu 1) cost (.own 1) aM kz (.mp []:: .mu cs:: .mu [.box 0 0]:: .mu [i64 kz]:: .mu [i64 dy]:: .mu [.list gs]:: .mu [i64 0,i64 0]:: .mu [.bool false]::[]) [R0,az na];have c2:=AR s (.aN 2 0 n cap) (.own 0) (.bu 1) cost (.own 1) dS dy (.mp []:: .mu cs:: .mu [.box 0 0]:: .mu [i64 kz]:: .mu [i64 dy]:: .mu [.list gs]:: .mu [i64 0,i64 0]:: .mu [.bool false]::[]) [R0,az na];rw[decide_eq_true hk]at c1;rw[decide_eq_true hr]at c2;have T6:=hl.1;refine lD ?_ rfl (by simp only[a7,bE];rfl) (aY _);refine cU func43 Xr Xn call43 λW0 S0 M0 own β hβ=> ?_;repeat'(first|(show av _ (.region 1 _ _) _ _;refine I2 2 4 (λN s1=>nq _ N (.func 44) [.tmp 11, .tmp 12] (some 13) s1) (λ_ _ h=>aP.G1 h) (λN s1=>nq _ N (.func 35) [.tmp 16, .tmp 17] (some 18) s1) (λ_ _ h=>aP.vd h) rfl rfl rfl (λK1 aA=> ?_);refine aj ?_)|(refine aA _ (eZ c1 ?_);intro K2 pC;simp only[aU,Nat.reduceAdd];refine aj ?_)|(refine pC _ (E5 rfl rfl ?_);clear pC K2;refine iK c2 (bC rfl) rfl rfl rfl rfl ?_;rintro d aB aD ⟨rfl,rfl,rfl⟩;simp only[aU,Nat.reduceAdd];refine aj ?_)|(show av _ (.seq (.region 4 _ _) _) _ _;refine bJ ?_)|refine aq ?_|refine au λK hK=> ?_|refine cA (ck) ?_|(intro hg;try exact ai)|exact fin|apply af)
 refine b_ ?_;repeat'(first|(show av _ (.loop _) _ _;refine bJ ?_)|refine aq ?_|refine au λK hK=> ?_|(intro hg;try exact ai)|exact fin|apply af)
 refine b_ ?_;refine dn (ι:=Nat) (λj=>[(0, .box 3 0),(1, .box 4 0),(2, .box 5 0),(3, .box 6 0),(4, .box 7 0),(5, .box 8 0),(7, .list (l.map ints)),(8,i64 ee),(31, .list (l.map ints)),(32,i64 l.length),(33,i64 (j:Nat))]) (λj=>[.mu (ay s n cap cost), .mp [], .mu cs, .mu [.box 0 0], .mu [i64 kz], .mu [i64 dy], .mu [.list gs], .mu [i64 (bW l j).1,i64 (bW l j).2], .mu [.bool false]]) (λ_=>[R0,az na])
  (λj=>j<=l.length) (λj=>l.length - j) (λ_ _=>⟨by simp[cq,T4],by simp only[a7,bE];rfl⟩) 0 ae (br rfl (by try refine aj ?_;try simp[bW]) ⟨_,rfl⟩ ⟨_,rfl⟩) (λj hj=> ?_) (hβ:=λ_ _=>by show β.length<=9;rw[hβ];exact aY 9)
 by_cases aG:j < l.length
 ·have hb:=hl.2 j aG;have og:=Gt hl j hj;cases j with
  |zero=>
   refine aj ?_;repeat'(first|(show av _ (.region 8 _ _) _ _;refine bJ ?_)|refine aq ?_|refine au λK hK=> ?_|(intro hg;try exact ai)|exact fin|apply af)
   all_goals refine b_ ?_
   refine ep (jQ [(0, .box 3 0),(1, .box 4 0),(2, .box 5 0),(3, .box 6 0),(4, .box 7 0),(5, .box 8 0),(7, .list (l.map ints)),(8,i64 ee),(10,ints (nth l (0))),(31, .list (l.map ints)),(32,i64 l.length),(33,i64 (0:Nat))] (by simp[put,fN,gk])) ?_;refine Yv (by rfl) W0 S0 M0 own β s R0 n cap na 0 kz cost dy ee cs gs _ _ false l (nth l 0) ⟨hb.1,hb.2.1⟩ _ ?_;simp only[e_,cond_true,cj,bH];repeat'(first|(show av _ (.region 9 _ _) _ _;refine bJ ?_)|refine aq ?_|refine au λK hK=> ?_|(intro hg;try exact ai)|exact fin|apply af)
   all_goals refine b_ ?_
   refine ep (jQ [(0, .box 3 0),(1, .box 4 0),(2, .box 5 0),(3, .box 6 0),(4, .box 7 0),(5, .box 8 0),(7, .list (l.map ints)),(8,i64 ee),(10,ints (nth l (0))),(31, .list (l.map ints)),(32,i64 l.length),(33,i64 (0:Nat))] (by simp[put,fN,gk])) ?_;refine Pg (by rfl) W0 S0 M0 own β s R0 n cap na 0 kz cost dy ee cs gs _ _ false l (nth l 0) ⟨hb.1,hb.2.1⟩ _ ?_;simp only[e_,cond_true,cj,bH];repeat'(first|refine aq ?_|refine au λK hK=> ?_|(intro hg;try exact ai)|exact fin|apply af)
   all_goals first|exact⟨1,ae,ae,br rfl (by try refine aj ?_;try simp[bW]) ⟨_,rfl⟩ ⟨_,rfl⟩⟩
  |succ j=>
   have e1:(bW l (j + 2)).1=min (bW l (j + 1)).1 (nth (nth l (j + 1)) 0):=by show min (if j + 1=0 then _ else _) _=_;rw[if_neg (Jr j)]
   have e2:(bW l (j + 2)).2=max (bW l (j + 1)).2 (nth (nth l (j + 1)) 0):=by show max (if j + 1=0 then _ else _) _=_;rw[if_neg (Jr j)]
   refine aj ?_;repeat'(first|(show av _ (.region 8 _ _) _ _;(exfalso;omega))|(show av _ (.region 9 _ _) _ _;refine bJ ?_)|refine aq ?_|refine au λK hK=> ?_|(intro hg;try exact ai)|exact fin|apply af)
   all_goals refine b_ ?_
   refine ep (jQ [(0, .box 3 0),(1, .box 4 0),(2, .box 5 0),(3, .box 6 0),(4, .box 7 0),(5, .box 8 0),(7, .list (l.map ints)),(8,i64 ee),(10,ints (nth l (j + 1))),(31, .list (l.map ints)),(32,i64 l.length),(33,i64 (j + 1:Nat))] (by simp[put,fN,gk])) ?_;refine Pg (by rfl) W0 S0 M0 own β s R0 n cap na (j + 1) kz cost dy ee cs gs _ _ false l (nth l (j + 1)) ⟨hb.1,hb.2.1⟩ _ ?_;simp only[e_,cond_true,cj,bH];repeat'(first|refine aq ?_|refine au λK hK=> ?_|(intro hg;try exact ai)|exact fin|apply af)
   all_goals first|exact⟨j + 2,ae,ae,br rfl (by try refine aj ?_;try simp;try omega) ⟨[],by rw[e1,e2];rfl⟩ ⟨[],rfl⟩⟩
 ·obtain rfl:j=l.length:=ae;rcases he with⟨rfl,rfl,rfl⟩|⟨rfl,rfl,rfl⟩|⟨rfl,rfl,rfl⟩;all_goals(
   refine aj ?_;repeat'(first|(show cC _ _ _ _ _;refine aj ?_)|refine aq ?_|refine au λK hK=> ?_|(intro hg;try exact ai)|exact fin|apply af)
   all_goals first|exact⟨[],rfl⟩|exact⟨_,rfl⟩|exact⟨rfl,rfl,rfl⟩|trace_state)
theorem Yt (s:aJ)(R0:Row)(n cap na:Nat)(kz cost dy:Int)(cs gs:List D)(aM:s.aL.length<=100)(dS:0<=s.dy/\s.dy<=100)(aw:∀d∈cs,Names 0 0 d)(hk:¬(0<=kz/\kz<=(s.aL.length:Int) - 1)):
  aH aa 43 [.box 3 0, .box 4 0, .box 5 0, .box 6 0, .box 7 0, .box 8 0] [.mu (ay s n cap cost), .mp [], .mu cs, .mu [.box 0 0], .mu [i64 kz], .mu [i64 dy], .mu [.list gs], .mu [i64 0,i64 0], .mu [.bool false]] [R0,az na] (aT (.bool false) [.mu (ay s n cap cost), .mp [], .mu cs, .mu [.box 0 0], .mu [i64 kz], .mu [i64 dy], .mu [.list gs], .mu [i64 0,i64 0], .mu [.bool false]] [R0,az na]):=by
 have bE:∀nb nr,bN nb nr cs=true:=λnb nr=>ec λd hd=>eG (aw d hd);have c1:=Hp s (.aN 2 0 n cap) (.own 0) (.bu 1) cost (.own 1) aM kz (.mp []:: .mu cs:: .mu [.box 0 0]:: .mu [i64 kz]:: .mu [i64 dy]:: .mu [.list gs]:: .mu [i64 0,i64 0]:: .mu [.bool false]::[]) [R0,az na];have c2:=AR s (.aN 2 0 n cap) (.own 0) (.bu 1) cost (.own 1) dS dy (.mp []:: .mu cs:: .mu [.box 0 0]:: .mu [i64 kz]:: .mu [i64 dy]:: .mu [.list gs]:: .mu [i64 0,i64 0]:: .mu [.bool false]::[]) [R0,az na];rw[decide_eq_false hk]at c1;clear c2;refine lD ?_ rfl (by simp only[a7,bE];rfl) (aY _);refine cU func43 Xr Xn call43 λW0 S0 M0 own β hβ=> ?_;repeat'(first|(show av _ (.region 1 _ _) _ _;refine I2 2 4 (λN s1=>nq _ N (.func 44) [.tmp 11, .tmp 12] (some 13) s1) (λ_ _ h=>aP.G1 h) (λN s1=>nq _ N (.func 35) [.tmp 16, .tmp 17] (some 18) s1) (λ_ _ h=>aP.vd h) rfl rfl rfl (λK1 aA=> ?_);refine aj ?_)|(refine aA _ (eZ c1 ?_);intro K2 pC;simp only[aU,Nat.reduceAdd];refine aj ?_)|(refine pC _ (akU rfl rfl aE (bC rfl) ?_);clear pC K2;simp only[aU,Nat.reduceAdd];refine aj ?_)|(show cC _ _ _ _ _;refine aj ?_)|refine aq ?_|refine au λK hK=> ?_|(intro hg;try exact ai)|exact fin|apply af)
 all_goals first|exact⟨[],rfl⟩|exact⟨_,rfl⟩|exact⟨rfl,rfl,rfl⟩
theorem YB (s:aJ)(R0:Row)(n cap na:Nat)(kz cost dy:Int)(cs gs:List D)(aM:s.aL.length<=100)(dS:0<=s.dy/\s.dy<=100)(aw:∀d∈cs,Names 0 0 d)(hk:0<=kz/\kz<=(s.aL.length:Int) - 1)(hr:¬(0<=dy/\dy<=s.dy - 1)):
  aH aa 43 [.box 3 0, .box 4 0, .box 5 0, .box 6 0, .box 7 0, .box 8 0] [.mu (ay s n cap cost), .mp [], .mu cs, .mu [.box 0 0], .mu [i64 kz], .mu [i64 dy], .mu [.list gs], .mu [i64 0,i64 0], .mu [.bool false]] [R0,az na] (aT (.bool false) [.mu (ay s n cap cost), .mp [], .mu cs, .mu [.box 0 0], .mu [i64 kz], .mu [i64 dy], .mu [.list gs], .mu [i64 0,i64 0], .mu [.bool false]] [R0,az na]):=by
 have bE:∀nb nr,bN nb nr cs=true:=λnb nr=>ec λd hd=>eG (aw d hd);have c1:=Hp s (.aN 2 0 n cap) (.own 0) (.bu 1) cost (.own 1) aM kz (.mp []:: .mu cs:: .mu [.box 0 0]:: .mu [i64 kz]:: .mu [i64 dy]:: .mu [.list gs]:: .mu [i64 0,i64 0]:: .mu [.bool false]::[]) [R0,az na];have c2:=AR s (.aN 2 0 n cap) (.own 0) (.bu 1) cost (.own 1) dS dy (.mp []:: .mu cs:: .mu [.box 0 0]:: .mu [i64 kz]:: .mu [i64 dy]:: .mu [.list gs]:: .mu [i64 0,i64 0]:: .mu [.bool false]::[]) [R0,az na];rw[decide_eq_true hk]at c1;rw[decide_eq_false hr]at c2;refine lD ?_ rfl (by simp only[a7,bE];rfl) (aY _);refine cU func43 Xr Xn call43 λW0 S0 M0 own β hβ=> ?_;repeat'(first|(show av _ (.region 1 _ _) _ _;refine I2 2 4 (λN s1=>nq _ N (.func 44) [.tmp 11, .tmp 12] (some 13) s1) (λ_ _ h=>aP.G1 h) (λN s1=>nq _ N (.func 35) [.tmp 16, .tmp 17] (some 18) s1) (λ_ _ h=>aP.vd h) rfl rfl rfl (λK1 aA=> ?_);refine aj ?_)|(refine aA _ (eZ c1 ?_);intro K2 pC;simp only[aU,Nat.reduceAdd];refine aj ?_)|(refine pC _ (E5 rfl rfl ?_);clear pC K2;refine iK c2 (bC rfl) rfl rfl rfl rfl ?_;rintro d aB aD ⟨rfl,rfl,rfl⟩;simp only[aU,Nat.reduceAdd];refine aj ?_)|(show cC _ _ _ _ _;refine aj ?_)|refine aq ?_|refine au λK hK=> ?_|(intro hg;try exact ai)|exact fin|apply af)
 all_goals first|exact⟨[],rfl⟩|exact⟨_,rfl⟩|exact⟨rfl,rfl,rfl⟩
end Go.Proofs.YtafmfhkplgapjaaGreatDoor
namespace Go.Proofs.YtafmfhkplgapjaaGreatDoor
set_option maxRecDepth 100000
set_option maxHeartbeats 4000000
open Go.Ab
attribute[local irreducible] av dL dY ak aH cY IA ez aP fM
theorem JV (s:aJ)(R0:Row)(n cap na:Nat)(kz cost dy:Int)(cs gs:List D)(aM:s.aL.length<=100)(dS:0<=s.dy/\s.dy<=100)(aw:∀d∈cs,Names 0 0 d)(y x:Int)(cb:Bool)(U:List D)(W R:Nat)(sl:Int)(S:List aS)(hr:0<=dy/\dy<=s.dy - 1)(hd:cs.drop (dy.toNat * 4)=i64 (W:Nat)::i64 (R:Nat)::i64 sl:: .list (S.map dU)::U)(bf:cs.length=cap * 4)(hn:n<=cap)(dH:n<=100)(fI:dy < n)(hS:S.length < 12):
  aH aa 46 [.box 3 0, .box 5 0] [.mu (ay s n cap cost), .mp [], .mu cs, .mu [.box 0 0], .mu [i64 kz], .mu [i64 dy], .mu [.list gs], .mu [i64 y,i64 x], .mu [.bool cb]] [R0,az na] (aT (.bool true) [.mu (ay s n cap cost), .mp [], .mu cs, .mu [.box 0 0], .mu [i64 kz], .mu [i64 dy], .mu [.list gs], .mu [i64 y,i64 x], .mu [.bool cb]] [R0,az na]):=by
 have c1:=Kw s n cap cost dy cs U _ _ _ S [R0,az na] hd bf hn dH ⟨hr.1,fI⟩ (.mu [.box 0 0]:: .mu [i64 kz]:: .mu [i64 dy]:: .mu [.list gs]:: .mu [i64 y,i64 x]:: .mu [.bool cb]::[]);rw[decide_eq_true ae]at c1;refine cU func46 ntmps46 results46 call46 λW0 S0 M0 own β hβ=> ?_;repeat'(first|(show av _ (.region 1 _ _) _ _;refine et 2 rfl (λK1 aA=> ?_);refine aj ?_)|(refine aA _ (eZ c1 ?_);simp only[aU,Nat.reduceAdd];refine aj ?_)|(show cC _ _ _ _ _;refine aj ?_)|refine aq ?_|refine au λK hK=> ?_|(intro hg;try exact ai)|exact fin|apply af)
theorem Yz {ops:Array Oper}(bP:ops=dA Tryz.f47 1)(w0:World)(S0:Addr->Prop)(e9:MM)(own:Nat->Prop)(β:List Nat)(s:aJ)(R0:Row)(n cap na:Nat)(kz cost dy:Int)(cs gs:List D)(y x:Int)(hk:0<=kz/\kz<=(s.aL.length:Int) - 1)(ed:s.aL.length<=100)(pb:Bool)(hc:aH aa 39 [.box 0 0,i64 dy,i64 (nth s.aL kz.toNat).2, .agg [i64 y,i64 x]] [.mu (ay s n cap cost), .mp [], .mu cs, .mu [.box 0 0], .mu [i64 kz], .mu [i64 dy], .mu [.list gs], .mu [i64 y,i64 x], .mu [.bool true]] [R0,az na] (aT (.bool pb) [.mu (ay s n cap cost), .mp [], .mu cs, .mu [.box 0 0], .mu [i64 kz], .mu [i64 dy], .mu [.list gs], .mu [i64 y,i64 x], .mu [.bool true]] [R0,az na])):
  jN ⟨aa,w0,S0,e9,none,own,β⟩ 1 ops 22 [(0,6,λL=> .bool true),(1,7,λL=> .bool true),(2,8,λL=> .box 0 0),(3,9,λL=>i64 dy),(4,10,λL=> .box 0 0),(5,11,λL=> .box 0 0),(6,12,λL=> .box 0 0),(7,13,λL=> .box 0 0),(8,14,λL=> .list (s.aL.map mF)),(9,15,λL=>i64 kz),(10,16,λL=> .ro (BV (nth s.aL kz.toNat))),(11,17,λL=> .ro [i64 (nth s.aL kz.toNat).2]),(12,18,λL=>i64 (nth s.aL kz.toNat).2),(13,19,λL=> .agg [i64 y,i64 x]),(14,20,λL=> .bool pb),(15,21,λL=> .bool pb),(16,5,λL=> .bool pb)] [(0, .box 8 0),(1, .box 3 0),(2, .box 5 0),(3, .box 4 0),(4, .box 7 0),(5, .bool false)] (λL=>[.mu (ay s n cap cost), .mp [], .mu cs, .mu [.box 0 0], .mu [i64 kz], .mu [i64 dy], .mu [.list gs], .mu [i64 y,i64 x], .mu [.bool true]]) (λL=>[R0,az na]):=by
 simp only[dA,eH,e8,Tryz.f47,fw,Nat.reduceBEq,bK,if_false,if_true,eI,eu,eR,iC,reduceIte,eq_self]at bP;subst bP;exact jY Tryz.ty.mixed rfl [(0,[]),(1,[1]),(2,[3]),(3,[3]),(4,[3]),(5,[3,9]),(6,[3,11]),(7,[3,13]),(8,[3,15]),(9,[3]),(10,[3,17,19]),(11,[3,21]),(12,[3,23]),(13,[3]),(14,[3,5,7,25,27]),(15,[3,29]),(16,[31])] [] ax rfl rfl iv js iw
theorem Pj (s:aJ)(R0:Row)(n cap na:Nat)(kz cost dy:Int)(cs gs:List D)(aM:s.aL.length<=100)(dS:0<=s.dy/\s.dy<=100)(aw:∀d∈cs,Names 0 0 d)(y x:Int)(hk:0<=kz/\kz<=(s.aL.length:Int) - 1)(pb:Bool)(hc:aH aa 39 [.box 0 0,i64 dy,i64 (nth s.aL kz.toNat).2, .agg [i64 y,i64 x]] [.mu (ay s n cap cost), .mp [], .mu cs, .mu [.box 0 0], .mu [i64 kz], .mu [i64 dy], .mu [.list gs], .mu [i64 y,i64 x], .mu [.bool true]] [R0,az na] (aT (.bool pb) [.mu (ay s n cap cost), .mp [], .mu cs, .mu [.box 0 0], .mu [i64 kz], .mu [i64 dy], .mu [.list gs], .mu [i64 y,i64 x], .mu [.bool true]] [R0,az na])):
  aH aa 47 [.box 8 0, .box 3 0, .box 5 0, .box 4 0, .box 7 0] [.mu (ay s n cap cost), .mp [], .mu cs, .mu [.box 0 0], .mu [i64 kz], .mu [i64 dy], .mu [.list gs], .mu [i64 y,i64 x], .mu [.bool true]] [R0,az na] (aT (.bool pb) [.mu (ay s n cap cost), .mp [], .mu cs, .mu [.box 0 0], .mu [i64 kz], .mu [i64 dy], .mu [.list gs], .mu [i64 y,i64 x], .mu [.bool true]] [R0,az na]):=by
 refine cU func47 ntmps47 results47 call47 λW0 S0 M0 own β hβ=> ?_;repeat'(first|(show av _ (.region 1 _ true) _ _;refine bJ ?_)|refine aq ?_|refine au λK hK=> ?_|(intro hg;try exact ai)|exact fin|apply af)
 refine b_ ?_;refine ep (jQ [(0, .box 8 0),(1, .box 3 0),(2, .box 5 0),(3, .box 4 0),(4, .box 7 0),(5, .bool false)] (by simp[put])) ?_;refine Yz (by rfl) W0 S0 M0 own β s R0 n cap na kz cost dy cs gs y x hk aM pb hc _ ?_;simp only[e_,cond_true,cj,bH];repeat'(first|(show cC _ _ _ _ _;refine aj ?_)|refine aq ?_|refine au λK hK=> ?_|(intro hg;try exact ai)|exact fin|apply af)
theorem Yy {ops:Array Oper}(bP:ops=dA Tryz.f47 1)(w0:World)(S0:Addr->Prop)(e9:MM)(own:Nat->Prop)(β:List Nat)(s:aJ)(R0:Row)(n cap na:Nat)(kz cost dy:Int)(cs gs:List D)(y x:Int)(hk:0<=kz/\kz<=(s.aL.length:Int) - 1)(ed:s.aL.length<=100):
  jN ⟨aa,w0,S0,e9,none,own,β⟩ 1 ops 22 [(0,6,λL=> .bool false),(1,7,λL=> .bool false),(2,8,λL=> .skp),(3,9,λL=> .skp),(4,10,λL=> .skp),(5,11,λL=> .skp),(6,12,λL=> .skp),(7,13,λL=> .skp),(8,14,λL=> .skp),(9,15,λL=> .skp),(10,16,λL=> .skp),(11,17,λL=> .skp),(12,18,λL=> .skp),(13,19,λL=> .skp),(14,20,λL=> .skp),(15,21,λL=> .bool false),(16,5,λL=> .bool false)] [(0, .box 8 0),(1, .box 3 0),(2, .box 5 0),(3, .box 4 0),(4, .box 7 0),(5, .bool false)] (λL=>[.mu (ay s n cap cost), .mp [], .mu cs, .mu [.box 0 0], .mu [i64 kz], .mu [i64 dy], .mu [.list gs], .mu [i64 y,i64 x], .mu [.bool false]]) (λL=>[R0,az na]):=by
 simp only[dA,eH,e8,Tryz.f47,fw,Nat.reduceBEq,bK,if_false,if_true,eI,eu,eR,iC,reduceIte,eq_self]at bP;subst bP;exact jY Tryz.ty.mixed rfl [(0,[]),(1,[1]),(2,[3]),(3,[3]),(4,[3]),(5,[3]),(6,[3]),(7,[3]),(8,[3]),(9,[3]),(10,[3]),(11,[3]),(12,[3]),(13,[3]),(14,[3]),(15,[3,29]),(16,[31])] [] ax rfl rfl iv js iw
theorem YA (s:aJ)(R0:Row)(n cap na:Nat)(kz cost dy:Int)(cs gs:List D)(aM:s.aL.length<=100)(dS:0<=s.dy/\s.dy<=100)(aw:∀d∈cs,Names 0 0 d)(y x:Int)(hk:0<=kz/\kz<=(s.aL.length:Int) - 1):
  aH aa 47 [.box 8 0, .box 3 0, .box 5 0, .box 4 0, .box 7 0] [.mu (ay s n cap cost), .mp [], .mu cs, .mu [.box 0 0], .mu [i64 kz], .mu [i64 dy], .mu [.list gs], .mu [i64 y,i64 x], .mu [.bool false]] [R0,az na] (aT (.bool false) [.mu (ay s n cap cost), .mp [], .mu cs, .mu [.box 0 0], .mu [i64 kz], .mu [i64 dy], .mu [.list gs], .mu [i64 y,i64 x], .mu [.bool false]] [R0,az na]):=by
 refine cU func47 ntmps47 results47 call47 λW0 S0 M0 own β hβ=> ?_;repeat'(first|(show av _ (.region 1 _ true) _ _;refine bJ ?_)|refine aq ?_|refine au λK hK=> ?_|(intro hg;try exact ai)|exact fin|apply af)
 refine b_ ?_;refine ep (jQ [(0, .box 8 0),(1, .box 3 0),(2, .box 5 0),(3, .box 4 0),(4, .box 7 0),(5, .bool false)] (by simp[put])) ?_;refine Yy (by rfl) W0 S0 M0 own β s R0 n cap na kz cost dy cs gs y x hk aM _ ?_;simp only[e_,cond_true,cj,bH];repeat'(first|(show cC _ _ _ _ _;refine aj ?_)|refine aq ?_|refine au λK hK=> ?_|(intro hg;try exact ai)|exact fin|apply af)
theorem Ph {ops:Array Oper}(bP:ops=dA Fk 5)(w0:World)(S0:Addr->Prop)(e9:MM)(own:Nat->Prop)(β:List Nat)(s:aJ)(R0:Row)(n cap na m i cp:Nat)(kz cost dy:Int)(cs A V:List D)(vs:List D)(him:i < m)(TZ:m<=cp)(hm3:m<=1000)(hA:A.drop (0 + i * 1)=(.list vs:D)::V)(hAs:A.take (0 + i * 1)++[(.list vs:D)]++A.drop (0 + i * 1 + 1)=A)(hAl:0 + i * 1 + 1<=A.length)(ck:ak aa 42 [.list vs] (.list vs)):
  jN ⟨aa,w0,S0,e9,none,own,β⟩ 5 ops 85 [(0,23,λL=> .aN 6 0 m cp),(1,24,λL=>i64 (i:Nat)),(2,25,λL=> .aN 6 0 m cp),(3,26,λL=>i64 (i:Nat)),(4,27,λL=> .box 6 (0 + i * 1)),(5,28,λL=> .list vs),(6,29,λL=> .list vs),(7,30,λL=> .box 6 (0 + i * 1))] [(4, .box 3 0),(5, .box 4 0),(6, .box 5 0),(9, .box 7 0),(10,i64 (i:Nat)),(19,i64 (m:Nat)),(20,i64 (i:Nat))] (λL=>[.mu (ay s n cap cost), .mp [], .mu cs, .mu [.box 0 0], .mu [i64 kz], .mu [i64 dy], .mu A, .mu [.aN 6 0 m cp]]) (λL=>[R0,az na]):=by
 have hE:=(af @hA @hAs);simp only[dA,eH,e8,Fk,fw,Nat.reduceBEq,bK,if_false,if_true,eI,eu,eR,iC,reduceIte,eq_self]at bP;subst bP;exact jY Tryz.ty.mixed rfl [(0,[]),(1,[]),(2,[]),(3,[]),(4,[5,7]),(5,[9]),(6,[11]),(7,[1,3]),(8,[13,15])] [] ax rfl rfl iv js iw
theorem Yx {ops:Array Oper}(bP:ops=dA Fk 12)(w0:World)(S0:Addr->Prop)(e9:MM)(own:Nat->Prop)(β:List Nat)(s:aJ)(R0:Row)(n cap na:Nat)(kz cost dy:Int)(cs eF gs:List D)(y x:Int)(hk:0<=kz/\kz<=(s.aL.length:Int) - 1)(ed:s.aL.length<=100)(hc:aH aa 40 [.box 0 0,i64 dy,i64 (nth s.aL kz.toNat).2, .agg [i64 y,i64 x]] [.mu (ay s n cap cost), .mp [], .mu cs, .mu [.box 0 0], .mu [i64 kz], .mu [i64 dy], .mu [.list gs], .mu [i64 y,i64 x], .mu [.bool true]] [R0,az na] (aT (.aF []) [.mu (ay s n cap cost), .mp [], .mu eF, .mu [.box 0 0], .mu [i64 kz], .mu [i64 dy], .mu [.list gs], .mu [i64 y,i64 x], .mu [.bool true]] [R0,az na])):
  jN ⟨aa,w0,S0,e9,none,own,β⟩ 12 ops 85 [(0,45,λL=> .box 0 0),(1,46,λL=>i64 dy),(2,47,λL=> .box 0 0),(3,48,λL=> .box 0 0),(4,49,λL=> .box 0 0),(5,50,λL=> .box 0 0),(6,51,λL=> .list (s.aL.map mF)),(7,52,λL=>i64 kz),(8,53,λL=> .ro (BV (nth s.aL kz.toNat))),(9,54,λL=> .ro [i64 (nth s.aL kz.toNat).2]),(10,55,λL=>i64 (nth s.aL kz.toNat).2),(11,56,λL=> .agg [i64 y,i64 x]),(12,57,λL=> .aF [])] [(4, .box 3 0),(5, .box 4 0),(6, .box 5 0),(9, .box 6 0),(11, .box 7 0),(12, .box 8 0)] (λL=>[.mu (ay s n cap cost), .mp [], .mu (bif L 12 then eF else cs), .mu [.box 0 0], .mu [i64 kz], .mu [i64 dy], .mu [.list gs], .mu [i64 y,i64 x], .mu [.bool true]]) (λL=>[R0,az na]):=by
 simp only[dA,eH,e8,Fk,fw,Nat.reduceBEq,bK,if_false,if_true,eI,eu,eR,iC,reduceIte,eq_self]at bP;subst bP;exact jY Tryz.ty.mixed rfl [(0,[24]),(1,[24]),(2,[24]),(3,[5,24]),(4,[7,24]),(5,[9,24]),(6,[11,24]),(7,[24]),(8,[13,15,24]),(9,[17,24]),(10,[19,24]),(11,[24]),(12,[1,3,21,23])] [] ax rfl rfl iv js iw
theorem Yw {ops:Array Oper}(bP:ops=dA Fk 13)(w0:World)(S0:Addr->Prop)(e9:MM)(own:Nat->Prop)(β:List Nat)(s:aJ)(R0:Row)(n cap na:Nat)(kz cost dy cw:Int)(cs gs:List D)(y x:Int)(fv:s.fl.length<=3)(ck:ak aa 48 [.agg [i64 s.to,i64 s.tf,i64 s.tm],i64 (s.fl.length + 1),i64 gs.length] (.aF [i64 cw,i64 0])):
  jN ⟨aa,w0,S0,e9,none,own,β⟩ 13 ops 85 [(0,59,λL=> .box 0 0),(1,60,λL=> .box 0 0),(2,61,λL=> .box 0 0),(3,62,λL=> .box 0 4),(4,63,λL=> .agg [i64 s.to,i64 s.tf,i64 s.tm]),(5,64,λL=> .box 0 0),(6,65,λL=> .box 0 0),(7,66,λL=> .box 0 0),(8,67,λL=> .box 0 1),(9,68,λL=> .box 0 1),(10,69,λL=> .list (s.fl.map kd)),(11,70,λL=>i64 s.fl.length),(12,71,λL=>i64 (s.fl.length + 1)),(13,72,λL=> .list gs),(14,73,λL=>i64 gs.length),(15,74,λL=> .aF [i64 cw,i64 0]),(16,58,λL=> .aF [i64 cw,i64 0]),(17,75,λL=>i64 cw),(18,76,λL=>i64 0),(19,14,λL=>i64 cw),(20,15,λL=>i64 0)] [(4, .box 3 0),(5, .box 4 0),(6, .box 5 0),(9, .box 6 0),(11, .box 7 0),(12, .box 8 0)] (λL=>[.mu (ay s n cap cost), .mp [], .mu cs, .mu [.box 0 0], .mu [i64 kz], .mu [i64 dy], .mu [.list gs], .mu [i64 y,i64 x], .mu [.bool true]]) (λL=>[R0,az na]):=by
 simp only[dA,eH,e8,Fk,fw,Nat.reduceBEq,bK,if_false,if_true,eI,eu,eR,iC,reduceIte,eq_self]at bP;subst bP;exact jY Tryz.ty.mixed rfl [(0,[]),(1,[1]),(2,[3]),(3,[5]),(4,[7]),(5,[]),(6,[11]),(7,[13]),(8,[15]),(9,[17]),(10,[19]),(11,[21]),(12,[23]),(13,[]),(14,[27]),(15,[9,25,29]),(16,[31]),(17,[33]),(18,[33]),(19,[35]),(20,[37])] [] ax rfl rfl iv js iw
theorem MV (C:List (List ByteArray)):∀x∈C.map aX,x.cells.length=1:=λx hx=>by obtain⟨g,_,rfl⟩:=eJ.1 hx;rfl
theorem Ic:∀C:List (List ByteArray),flat (C.map aX)=C.map aX
 |[]=>rfl
 |g::C=>by
  show[aX g]++flat (C.map aX)=_;rw[Ic C];rfl
theorem U6 (bx:List Bx)(rw:List Row)(C:List (List ByteArray))(m:Nat):jy bx rw (C.map aX++cD m .undef)=some (C.map aX++cD m .undef):=GU λd hd=>by
 rcases fA.1 hd with hd|hd
 ·obtain⟨g,_,rfl⟩:=eJ.1 hd;rfl
 ·rw[(rv.1 hd).2];rfl
theorem VM (C:List (List ByteArray))(m:Nat)(hm:m=C.length)(hC:1<=C.length/\C.length<=3)(bx:List Bx)(rw:List Row):aH aa 41 [.list (C.map aX)] bx rw (λd aB aD=>∃m' cap,m<=cap/\d= .aN bx.length 0 m cap/\aB=bx++[.mu (C.map aX++cD m' .undef)]/\aD=rw):=by
 refine cU func41 ntmps41 results41 call41 λW0 S0 M0 own β hβ=> ?_;have MP:(C.map aX).length=C.length:=by simp
 have By:=MV C;have fv:=Ic C;generalize C.map aX=gs at *;repeat'(first|(show av _ (.region 1 _ _) _ _;refine oK 1 (E6 _ 39 (.tmp 3) (some 4)) (λ_ _ h=>aP.dup h) rfl rfl (λK1 aA=> ?_);refine aj ?_)|(refine aA _ ⟨(bC rfl), ?_⟩;clear aA K1;refine aj ?_)|(show cC _ _ _ _ _;refine aj ?_)|refine aq ?_|refine au λK hK=> ?_|(intro hg;try exact ai)|exact fin|apply af)
 all_goals first
  |(exact By _ (by assumption))
  |(exfalso;have h0:=MP;rw[(by assumption:gs=[])]at h0;simp at h0;omega)
  |(refine⟨_,_, ?_,by rw[MP,hm],by rw[fv]⟩;omega)
  |exact⟨[],rfl⟩
theorem MW {C:List (List ByteArray)}{i m':Nat}(hi:i < C.length):(C.map aX++cD m' D.undef).drop (0 + i * 1)=(.list ((nth C i).map D.str):D)::((C.map aX).drop (i + 1)++cD m' .undef):=by
 have hl:(C.map aX).length=C.length:=by simp
 rw[fK,Ch,List.drop_append_of_le_length ae,v_ ae];simp[nth,hi]
theorem U7 {C:List (List ByteArray)}{i m':Nat}(hi:i < C.length):(C.map aX++cD m' D.undef).take (0 + i * 1)++[(.list ((nth C i).map D.str):D)]++(C.map aX++cD m' D.undef).drop (0 + i * 1 + 1)=C.map aX++cD m' D.undef:=by
 have h:=MW (m':=m') hi;have h2:=List.take_append_drop (0 + i * 1) (C.map aX++cD m' D.undef);rw[h]at h2;have h3:(C.map aX++cD m' D.undef).drop (0 + i * 1 + 1)=(C.map aX).drop (i + 1)++cD m' .undef:=by
  rw[<-FC,h];rfl
 rw[h3,kK];exact h2
theorem F8 (s:aJ)(R0:Row)(n cap na:Nat)(kz cost dy:Int)(cs:List D)(C:List (List ByteArray))(aM:s.aL.length<=100)(aw:∀d∈cs,Names 0 0 d)(hC:1<=C.length/\C.length<=3)(th:∀i,i < C.length->(nth C i).length<=1000000)(code y x:Int)(cb:Bool)(s_:code=2\/code=7)(c1:aH aa 32 [.box 0 0, .any, .ag 43 [.box 3 0, .box 4 0, .box 5 0, .box 6 0, .box 7 0, .box 8 0], .ag 46 [.box 3 0, .box 5 0], .ag 47 [.box 8 0, .box 3 0, .box 5 0, .box 4 0, .box 7 0]] [.mu (ay s n cap cost), .mp [], .mu cs, .mu [.box 0 0], .mu [i64 kz], .mu [i64 dy], .mu [.list (C.map aX)], .mu [i64 0,i64 0], .mu [.bool false]] [R0,az na] (aT (i64 code) [.mu (ay s n cap cost), .mp [], .mu cs, .mu [.box 0 0], .mu [i64 kz], .mu [i64 dy], .mu [.list (C.map aX)], .mu [i64 y,i64 x], .mu [.bool cb]] [R0,az na])):
  aH aa 10 [.box 0 0,i64 kz,i64 dy, .list (C.map aX)] [.mu (ay s n cap cost), .mp [], .mu cs] [R0,az na] (aT (i64 code) [.mu (ay s n cap cost), .mp [], .mu cs] [R0,az na]):=by
 have bE:∀nb nr,bN nb nr cs=true:=λnb nr=>ec λd hd=>eG (aw d hd);obtain⟨m,hm⟩:∃m:Nat,m=(C.map aX).length:=⟨_,rfl⟩;have Md:m=C.length:=by rw[hm];simp
 have Mm:∀nb nr (m':Nat),bN nb nr (C.map aX++cD m' .undef)=true:=λnb nr m'=>ec λd hd=>by
  rcases fA.1 hd with hd|hd
  ·obtain⟨g,_,rfl⟩:=eJ.1 hd;rfl
  ·rw[(rv.1 hd).2];rfl
 refine lD ?_ rfl (by simp only[a7,bE];rfl) (aY _);refine cU func10 ntmps10 results10 call10 λW0 S0 M0 own β hβ=> ?_;repeat'(first|(show av _ (.region 1 _ _) _ _;refine et 1 rfl (λK1 aA=> ?_);refine aj ?_)|(refine aA _ (iK (VM C m Md hC [.mu (ay s n cap cost), .mp [], .mu cs, .mu [.box 0 0], .mu [i64 kz], .mu [i64 dy]] [R0,az na]) (bC rfl) rfl rfl rfl rfl ?_);clear aA K1;rintro d aB aD ⟨m',cp,r8,rfl,rfl,rfl⟩;simp only[aU,Nat.reduceAdd];refine aj ?_)|(show av _ (.loop _) _ _;refine bJ ?_)|refine aq ?_|refine au λK hK=> ?_|(intro hg;try exact ai)|exact fin|apply af)
 all_goals refine b_ ?_
 refine dn (ι:=Nat) (λi=>[(4, .box 3 0),(5, .box 4 0),(6, .box 5 0),(9, .box 7 0),(19,i64 (m:Nat)),(20,i64 (i:Nat))]) (λ_=>[.mu (ay s n cap cost), .mp [], .mu cs, .mu [.box 0 0], .mu [i64 kz], .mu [i64 dy], .mu (C.map aX++cD m' .undef), .mu [.aN 6 0 m cp]]) (λ_=>[R0,az na])
  (λi=>i<=m) (λi=>m - i) (λ_ _=>⟨by simp[cq],by simp only[a7,bE,Mm];rfl⟩) 0 ae bY (λi hi=> ?_) (hβ:=λ_ _=>by show β.length<=8;rw[hβ];exact(show(3:Nat)<=8 by decide))
 by_cases aG:i < m
 ·refine aj ?_;repeat'(first|(show av _ (.region 5 _ true) _ _;refine bJ ?_)|refine aq ?_|refine au λK hK=> ?_|(intro hg;try exact ai)|exact fin|apply af)
  all_goals refine b_ ?_
  refine ep (jQ [(4, .box 3 0),(5, .box 4 0),(6, .box 5 0),(9, .box 7 0),(10,i64 (i:Nat)),(19,i64 (m:Nat)),(20,i64 (i:Nat))] (by simp[put,fN,gk])) ?_;refine Ph (by rfl) W0 S0 M0 own β s R0 n cap na m i cp kz cost dy cs _ _ _ aG r8 ae (MW ae) (U7 ae) (by simp;omega) (VJ (nth C i) (th i ae)) _ ?_;simp only[e_,cond_true,cj,bH,eR,eI];repeat'(first|refine aq ?_|refine au λK hK=> ?_|(intro hg;try exact ai)|exact fin|apply af)
  all_goals first|exact⟨i + 1,ae,ae,bY⟩
 ·obtain rfl:i=m:=ae;refine aj ?_;repeat'(first|(show av _ (.region 7 _ _) _ _;refine bJ ?_)|refine aq ?_|refine au λK hK=> ?_|(intro hg;try exact ai)|exact fin|apply af)
  all_goals refine b_ ?_
  refine ep (jQ [(4, .box 3 0),(5, .box 4 0),(6, .box 5 0),(9, .box 7 0)] (by simp[put,fN,gk])) ?_;refine ep (bX.freeze 6 rfl (U6 _ _ _ _)) ?_;subst hm;refine ep (bX.N0 7 0 6 (ys:=C.map aX) (U:=cD m' .undef) (cap:=cp) (sz:=1) rfl rfl (by rw[Ic C];rfl) (MV C) r8) ?_;refine ep (C4 [0,1,2,3,4,5,7] (l':=[(4, .box 3 0),(5, .box 4 0),(6, .box 5 0),(9, .box 6 0)]) (aB:=[.mu (ay s n cap cost), .mp [], .mu cs, .mu [.box 0 0], .mu [i64 kz], .mu [i64 dy], .mu [.list (C.map aX)]]) aE (SU (k:=3) (by rw[hβ];rfl) aE) rfl ?_) ?_
  ·have e:ko (pos [0,1,2,3,4,5,7] 0) cs=cs:=AD aw;simp only[qL,List.set,ib,nz,zX,uN,nL,e];rfl
  simp only[fN,gk];rcases s_ with rfl|rfl;all_goals(
   repeat'(first|(show av _ (.region 9 _ _) _ _;refine et 9 rfl (λK1 aA=> ?_);refine aj ?_)|(refine aA _ (eZ c1 ?_);simp only[aU,Nat.reduceAdd];refine aj ?_)|(show cC _ _ _ _ _;refine aj ?_)|refine aq ?_|refine au λK hK=> ?_|(intro hg;try exact ai)|exact fin|apply af)
   all_goals first|exact⟨[],rfl⟩|exact⟨_,rfl⟩|trace_state)
theorem Yu (s:aJ)(R0:Row)(n cap na:Nat)(kz cost dy:Int)(cs:List D)(C:List (List ByteArray))(aM:s.aL.length<=100)(aw:∀d∈cs,Names 0 0 d)(hC:1<=C.length/\C.length<=3)(th:∀i,i < C.length->(nth C i).length<=1000000)(y x cw:Int)(U:List D)(W R:Nat)(sl:Int)(S:List aS)(hr:0<=dy/\dy<=s.dy - 1)(hd:cs.drop (dy.toNat * 4)=i64 (W:Nat)::i64 (R:Nat)::i64 sl:: .list (S.map dU)::U)(bf:cs.length=cap * 4)(hn:n<=cap)(dH:n<=100)(fI:dy < n)(hS:S.length < 12)(hk:0<=kz/\kz<=(s.aL.length:Int) - 1)(fv:s.fl.length<=3)(hcw:0<=cw/\cw<=1000000000000)(hco:0<=cost/\cost<=1000000000000)(c1:aH aa 32 [.box 0 0, .any, .ag 43 [.box 3 0, .box 4 0, .box 5 0, .box 6 0, .box 7 0, .box 8 0], .ag 46 [.box 3 0, .box 5 0], .ag 47 [.box 8 0, .box 3 0, .box 5 0, .box 4 0, .box 7 0]] [.mu (ay s n cap cost), .mp [], .mu cs, .mu [.box 0 0], .mu [i64 kz], .mu [i64 dy], .mu [.list (C.map aX)], .mu [i64 0,i64 0], .mu [.bool false]] [R0,az na] (aT (i64 0) [.mu (ay s n cap cost), .mp [], .mu cs, .mu [.box 0 0], .mu [i64 kz], .mu [i64 dy], .mu [.list (C.map aX)], .mu [i64 y,i64 x], .mu [.bool true]] [R0,az (na + 1)]))(cc:ak aa 48 [.agg [i64 s.to,i64 s.tf,i64 s.tm],i64 (s.fl.length + 1),i64 C.length] (.aF [i64 cw,i64 0])):
  aH aa 10 [.box 0 0,i64 kz,i64 dy, .list (C.map aX)] [.mu (ay s n cap cost), .mp [], .mu cs] [R0,az na] (aT (i64 0) [.mu (ay s n cap (cost + cw)), .mp [], .mu (cs.take (dy.toNat * 4)++cx W R sl (S++[⟨(nth s.aL kz.toNat).2,y,x⟩])++U)] [R0,az (na + 1)]):=by
 have bE:∀nb nr,bN nb nr cs=true:=λnb nr=>ec λd hd=>eG (aw d hd);obtain⟨m,hm⟩:∃m:Nat,m=(C.map aX).length:=⟨_,rfl⟩;have Md:m=C.length:=by rw[hm];simp
 have Mm:∀nb nr (m':Nat),bN nb nr (C.map aX++cD m' .undef)=true:=λnb nr m'=>ec λd hd=>by
  rcases fA.1 hd with hd|hd
  ·obtain⟨g,_,rfl⟩:=eJ.1 hd;rfl
  ·rw[(rv.1 hd).2];rfl
 have cc:ak aa 48 [.agg [i64 s.to,i64 s.tf,i64 s.tm],i64 (s.fl.length + 1),i64 (C.map aX).length] (.aF [i64 cw,i64 0]):=by rw[show(C.map aX).length=C.length by simp];exact cc
 have mv:=NG (pt:=(nth s.aL kz.toNat).2) (lo:=y) (hi:=x) aw hd;have c2:=KC s R0 n cap (na + 1) cost dy (nth s.aL kz.toNat).2 y x cs U W R sl S aw hd bf hn dH ⟨hr.1,fI⟩ ae;generalize(cs.take (dy.toNat * 4)++cx W R sl (S++[⟨(nth s.aL kz.toNat).2,y,x⟩])++U)=eF at mv c2⊢;have qX:∀nb nr,bN nb nr eF=true:=λnb nr=>ec λd hd=>eG (mv d hd);have c2:=gC (nr:=2) [.mu [.box 0 0], .mu [i64 kz], .mu [i64 dy], .mu [.list (C.map aX)], .mu [i64 y,i64 x], .mu [.bool true]] c2 rfl (by simp only[a7,bE];rfl) (by simp only[a7,qX];rfl) rfl rfl rfl;refine lD ?_ rfl (by simp only[a7,qX];rfl) (aY _);refine cU func10 ntmps10 results10 call10 λW0 S0 M0 own β hβ=> ?_;repeat'(first|(show av _ (.region 1 _ _) _ _;refine et 1 rfl (λK1 aA=> ?_);refine aj ?_)|(refine aA _ (iK (VM C m Md hC [.mu (ay s n cap cost), .mp [], .mu cs, .mu [.box 0 0], .mu [i64 kz], .mu [i64 dy]] [R0,az na]) (bC rfl) rfl rfl rfl rfl ?_);clear aA K1;rintro d aB aD ⟨m',cp,r8,rfl,rfl,rfl⟩;simp only[aU,Nat.reduceAdd];refine aj ?_)|(show av _ (.loop _) _ _;refine bJ ?_)|refine aq ?_|refine au λK hK=> ?_|(intro hg;try exact ai)|exact fin|apply af)
 all_goals refine b_ ?_
 refine dn (ι:=Nat) (λi=>[(4, .box 3 0),(5, .box 4 0),(6, .box 5 0),(9, .box 7 0),(19,i64 (m:Nat)),(20,i64 (i:Nat))]) (λ_=>[.mu (ay s n cap cost), .mp [], .mu cs, .mu [.box 0 0], .mu [i64 kz], .mu [i64 dy], .mu (C.map aX++cD m' .undef), .mu [.aN 6 0 m cp]]) (λ_=>[R0,az na])
  (λi=>i<=m) (λi=>m - i) (λ_ _=>⟨by simp[cq],by simp only[a7,bE,Mm];rfl⟩) 0 ae bY (λi hi=> ?_) (hβ:=λ_ _=>by show β.length<=8;rw[hβ];exact(show(3:Nat)<=8 by decide))
 by_cases aG:i < m
 ·refine aj ?_;repeat'(first|(show av _ (.region 5 _ true) _ _;refine bJ ?_)|refine aq ?_|refine au λK hK=> ?_|(intro hg;try exact ai)|exact fin|apply af)
  all_goals refine b_ ?_
  refine ep (jQ [(4, .box 3 0),(5, .box 4 0),(6, .box 5 0),(9, .box 7 0),(10,i64 (i:Nat)),(19,i64 (m:Nat)),(20,i64 (i:Nat))] (by simp[put,fN,gk])) ?_;refine Ph (by rfl) W0 S0 M0 own β s R0 n cap na m i cp kz cost dy cs _ _ _ aG r8 ae (MW ae) (U7 ae) (by simp;omega) (VJ (nth C i) (th i ae)) _ ?_;simp only[e_,cond_true,cj,bH,eR,eI];repeat'(first|refine aq ?_|refine au λK hK=> ?_|(intro hg;try exact ai)|exact fin|apply af)
  all_goals first|exact⟨i + 1,ae,ae,bY⟩
 ·obtain rfl:i=m:=ae;refine aj ?_;repeat'(first|(show av _ (.region 7 _ _) _ _;refine bJ ?_)|refine aq ?_|refine au λK hK=> ?_|(intro hg;try exact ai)|exact fin|apply af)
  all_goals refine b_ ?_
  refine ep (jQ [(4, .box 3 0),(5, .box 4 0),(6, .box 5 0),(9, .box 7 0)] (by simp[put,fN,gk])) ?_;refine ep (bX.freeze 6 rfl (U6 _ _ _ _)) ?_;subst hm;refine ep (bX.N0 7 0 6 (ys:=C.map aX) (U:=cD m' .undef) (cap:=cp) (sz:=1) rfl rfl (by rw[Ic C];rfl) (MV C) r8) ?_;refine ep (C4 [0,1,2,3,4,5,7] (l':=[(4, .box 3 0),(5, .box 4 0),(6, .box 5 0),(9, .box 6 0)]) (aB:=[.mu (ay s n cap cost), .mp [], .mu cs, .mu [.box 0 0], .mu [i64 kz], .mu [i64 dy], .mu [.list (C.map aX)]]) aE (SU (k:=3) (by rw[hβ];rfl) aE) rfl ?_) ?_
  ·have e:ko (pos [0,1,2,3,4,5,7] 0) cs=cs:=AD aw;simp only[qL,List.set,ib,nz,zX,uN,nL,e];rfl
  simp only[fN,gk];repeat'(first|(show av _ (.region 12 _ true) _ _;refine bJ ?_)|(show av _ (.region 9 _ _) _ _;refine et 9 rfl (λK1 aA=> ?_);refine aj ?_)|(refine aA _ (eZ c1 ?_);simp only[aU,Nat.reduceAdd];refine aj ?_)|refine aq ?_|refine au λK hK=> ?_|(intro hg;try exact ai)|exact fin|apply af)
  all_goals refine b_ ?_
  refine ep (jQ [(4, .box 3 0),(5, .box 4 0),(6, .box 5 0),(9, .box 6 0),(11, .box 7 0),(12, .box 8 0)] (by simp[put])) ?_;refine Yx (by rfl) W0 S0 M0 own β s R0 n cap (na + 1) kz cost dy cs eF (C.map aX) y x hk aM c2 _ ?_;simp only[e_,cond_true,cj,bH];repeat'(first|(show av _ (.region 13 _ true) _ _;refine bJ ?_)|refine aq ?_|refine au λK hK=> ?_|(intro hg;try exact ai)|exact fin|apply af)
  all_goals refine b_ ?_
  refine ep (jQ [(4, .box 3 0),(5, .box 4 0),(6, .box 5 0),(9, .box 6 0),(11, .box 7 0),(12, .box 8 0)] (by simp[put,fN,gk])) ?_;refine Yw (by rfl) W0 S0 M0 own β s R0 n cap (na + 1) kz cost dy cw eF (C.map aX) y x fv cc _ ?_;simp only[e_,cond_true,cj,bH];repeat'(first|(show cC _ _ _ _ _;refine aj ?_)|refine aq ?_|refine au λK hK=> ?_|(intro hg;try exact ai)|exact fin|apply af)
  all_goals first|exact⟨[],rfl⟩|exact⟨_,rfl⟩
end Go.Proofs.YtafmfhkplgapjaaGreatDoor
