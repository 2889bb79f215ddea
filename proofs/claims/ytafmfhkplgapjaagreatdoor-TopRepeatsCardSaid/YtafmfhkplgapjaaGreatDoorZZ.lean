import Derived.SevenTiedAt
import Derived.Test.YtafmfhkplgapjaaGreatDoorZ15
import Derived.Test.YtafmfhkplgapjaaGreatDoorCards
import Derived.Carry
/- The law TopRepeats returns true for every input (a suite, ships, a station, a day, copies, a point, and a level), and leaves its arguments as they were; the card ties the listed tables to the program's text.
Its conditions: those of the given row alone (the listed package variables start as the program's text lays them). -/
set_option linter.unusedVariables false
set_option linter.unusedSimpArgs false
open Go.DataW renaming Trod->sC,TrodAll->FT
open Go.Proofs.Tryz renaming checked->Xs,f3->iW,func3->Jj,params3->Xo,prog->aa
open Go.Proofs.Tryz
namespace Go.Proofs.YtafmfhkplgapjaaGreatDoor
set_option maxRecDepth 100000
theorem ZH:((Rows.topRepeatsRow.ifacesOut == iW.resultTypes.toList.any (aa.ifacesRec ·)))=true:=by kernel_rfl
theorem ZG:((Rows.topRepeatsRow.loopsOut == iW.resultTypes.toList.any (aa.loopsFrom ·)))=true:=by kernel_rfl
theorem ZF:((Rows.topRepeatsRow.plainKeys == aa.plainKeys))=true:=by kernel_rfl
theorem ZE:(Rows.topRepeatsRow.shortTexts.isNone)=true:=by kernel_rfl
theorem ZD:(aa.stopsHeard)=true:=by kernel_rfl
theorem ZC:(aa.mayEnter)=true:=by kernel_rfl
theorem ZB:((Rows.topRepeatsRow.lifted == aa.liftsFinal))=true:=by kernel_rfl
theorem ZA:((aa.make == some Rows.topRepeatsRow.make))=true:=by kernel_rfl
theorem Zz:((Rows.topRepeatsRow.pinned == Rows.topRepeatsRow.pinnedBy))=true:=by kernel_rfl
theorem Zx:((Rows.topRepeatsRow.veiled == (iW.params.toList++Rows.topRepeatsSpec.plain.varTypes aa++iW.resultTypes.toList).any (aa.veiledRec ·)))=true:=by kernel_rfl
theorem Zw:(Rows.topRepeatsRow.veiledFits aa iW.params.toList (iW.params.toList++Rows.topRepeatsSpec.plain.varTypes aa++iW.resultTypes.toList))=true:=by kernel_rfl
end Go.Proofs.YtafmfhkplgapjaaGreatDoor
namespace Go.Proofs.YtafmfhkplgapjaaGreatDoor
set_option maxRecDepth 100000
theorem PH:aa.funcNamed "isobar/isobartop.TopRepeats" =some 3:=by kernel_rfl
theorem Zn:decide (iW.isInstance aa Rows.topRepeatsRow.origin Rows.topRepeatsRow.targs)=true:=by kernel_rfl
theorem Zk:([37,38,3,39].all λu=> !aa.wantsStandIn u)=true:=by kernel_rfl
end Go.Proofs.YtafmfhkplgapjaaGreatDoor
namespace Go.Proofs.YtafmfhkplgapjaaGreatDoor
set_option maxRecDepth 100000
theorem Zj:Rows.topRepeatsRow.wfByText (OpenSpec.ofChange Rows.topRepeatsSpec)=true:=by kernel_rfl
theorem Zl:aa.mainIs=some (true, "313e60e670179798dc0b112a741ead5535cd87441bbd32444476bc9cb08109c8".toList):=by kernel_rfl
end Go.Proofs.YtafmfhkplgapjaaGreatDoor
namespace Go.Proofs.YtafmfhkplgapjaaGreatDoor
set_option maxRecDepth 100000
theorem Zm:true=aa.looks []:=by kernel_rfl
end Go.Proofs.YtafmfhkplgapjaaGreatDoor
namespace Go.Proofs.YtafmfhkplgapjaaGreatDoor
set_option maxRecDepth 100000
theorem Zo:false=Rows.topRepeatsRow.goesBy aa:=by kernel_rfl
end Go.Proofs.YtafmfhkplgapjaaGreatDoor
namespace Go.Proofs.YtafmfhkplgapjaaGreatDoor
set_option maxRecDepth 100000
set_option maxHeartbeats 4000000
open Go.ChangeShapes Go.WideShapes Go.ChangeAt Go.RowKit Go.Ab
theorem Zd {H:Type}{enc:TypeId×Value->H}{P:Program}{w:World}{base:Nat}{spare:Nat->Bool}{held:Bool}{t t' PL t3 t4 t5 t6:TypeId}{args:Array Value}{ds:List (DataW H)}{ps:List MemPlace}
  (h:FT enc P w base spare held [t,t',PL,t3,t4,t5,t6] args.toList ds ps):
  ∃v v' Gd v3 v4 v5 v6 d d' Iy d3 d4 d5 d6 p p' GY p3 p4 p5 p6,args=#[v,v',Gd,v3,v4,v5,v6]/\ds=[d,d',Iy,d3,d4,d5,d6]/\ps=p++p'++GY++p3++p4++p5++p6/\sC enc P w base spare held t v d p/\sC enc P w base spare held t' v' d' p'/\
   sC enc P w base spare held PL Gd Iy GY/\sC enc P w base spare held t3 v3 d3 p3/\sC enc P w base spare held t4 v4 d4 p4/\sC enc P w base spare held t5 v5 d5 p5/\sC enc P w base spare held t6 v6 d6 p6:=by
 obtain⟨v,vs,d,ds1,p,q,ME,rfl,rfl,hd,h1⟩:=trodAll_cons h;obtain⟨v',vs1,d',ds2,p',q1,rfl,rfl,rfl,ng,h2⟩:=trodAll_cons h1;obtain⟨Gd,vs2,Iy,ds3,GY,q2,rfl,rfl,rfl,dQ,h3⟩:=trodAll_cons h2;obtain⟨v3,vs3,d3,ds4,p3,q3,rfl,rfl,rfl,xr,h4⟩:=trodAll_cons h3;obtain⟨v4,vs4,d4,ds5,p4,q4,rfl,rfl,rfl,HV,h5⟩:=trodAll_cons h4;obtain⟨v5,vs5,d5,ds6,p5,q5,rfl,rfl,rfl,UJ,h6⟩:=trodAll_cons h5;obtain⟨v6,vs6,d6,ds7,p6,q6,rfl,rfl,rfl,hd6,h7⟩:=trodAll_cons h6;obtain⟨rfl,rfl,rfl⟩:=trodAll_nil h7;exact⟨v,v',Gd,v3,v4,v5,v6,d,d',Iy,d3,d4,d5,d6,p,p',GY,p3,p4,p5,p6,by cases args;simp_all,rfl,by simp,hd,ng,dQ,xr,HV,UJ,hd6⟩
theorem Zp:joinedFacts aa 3 iW Rows.topRepeatsSpec Rows.topRepeatsRow=true:=by
 unfold joinedFacts;rw[ZU,ZT,ZI,Zy,Zv,Zu,Zt,Zs,Zr,Zq,ZS,ZR,ZQ,ZP,ZO,ZN,ZM,ZL,ZK,ZJ,ZH,ZG,ZF,ZE,ZD,ZC,ZB,ZA,Zz,Zx,Zw]
 kernel_rfl
theorem Zi (os:Os)(started:os.Started)(H:Type)(enc:TypeId×Value->H):
  ReturnsInHanded {} Xs os 3 .any (λw args=>(Rows.topRepeatsSpec.pre enc aa iW [] false w args/\laidMetH aa yM w)/\sizedMet enc aa iW (OpenSpec.ofChange Rows.topRepeatsSpec) false w args)
   (Rows.topRepeatsSpec.post enc aa iW false true false false):=by
 refine returnsInHanded_of_change_and (C:=Xs) (X:=λw _=>laidMetH aa yM w) (λ_ _ _ hh h=>h.of_heap hh) own started ax Jj
  (ChangeSpec.witness_shaped (enc:=enc) (C:=Xs) (os:=os) (X:=λw _=>laidMetH aa yM w) false (World.laidAll aa os yM) #[.agg #[.slice none 0 0, .slice none 0 0, .slice none 0 0, .int .i64 0, .int .i64 0, .int .i64 0, .int .i64 0, .int .i64 0, .int .i64 0, .int .i64 0, .int .i64 0, .slice none 0 0, .slice none 0 0, .slice none 0 0, .int .i64 0, .int .i64 0, .int .i64 0, .int .i64 0, .int .i64 0, .int .i64 0, .slice none 0 0, .int .i64 0, .int .i64 0, .int .i64 0, .int .i64 0], .slice none 0 0, .int .i64 0, .int .i64 0, .slice none 0 0, .int .i64 0, .int .i64 0] 8 (World.laidAll_os _ _ _) (World.shaped_of_ZipB ax ax) ax ax ax (ak_ os _)) ?_
 intro W base args ds gs before afO hW _ _ hL _;have mh:∀(j:Nat) t v,iW.params[j]? =some t->args[j]? =some v->Value.okWide aa W .any base t v:=afO;have H3:=hW;obtain⟨p,q,vH,hV,n5,Uo,iR⟩:=H3;have hA:FT enc aa W 0 (λ_=>true) true iW.params.toList args.toList ds p:=vH;rw[Xo]at hA mh;obtain⟨v0,v1,v2,v3,v4,v5,v6,d0,d1,d2,d3,d4,d5,d6,p0,p1,p2,p3,p4,p5,p6,rfl,rfl,hp,h0,h1,h2,h3,h4,h5,h6⟩:=Zd hA;obtain⟨a0,k0,r0⟩:=ak0 (mh 0 37 v0 rfl rfl) h0;obtain⟨a1,k1,r1⟩:=ak1 (mh 1 38 v1 rfl rfl) h1;obtain⟨a2,r2⟩:=IT (mh 2 3 v2 rfl rfl) h2;obtain⟨a3,r3⟩:=IT (mh 3 3 v3 rfl rfl) h3;obtain⟨a4,k4,r4⟩:=ak2 (mh 4 39 v4 rfl rfl) h4;obtain⟨a5,r5⟩:=IT (mh 5 3 v5 rfl rfl) h5;obtain⟨a6,r6⟩:=IT (mh 6 3 v6 rfl rfl) h6;exact akw (s:=Rows.topRepeatsSpec) (Ds:=[ji a0, .list (a1.map dU),i64 a2,i64 a3, .list (a4.map aX),i64 a5,i64 a6]) rfl rfl underlying4 ⟨rfl,rfl,rfl⟩ aeI aei ahq (by rw[Xo];decide +kernel) (ZY hL) hW (acd a0 k0 a1 k1 a2 a3 a4 k4 a5 a6 known20_ok) rfl (λq x hx=>by
  match q,hx with
  |0,hx=>cases hx;exact r0
  |1,hx=>cases hx;exact r1
  |2,hx=>cases hx;exact r2
  |3,hx=>cases hx;exact r3
  |4,hx=>cases hx;exact r4
  |5,hx=>cases hx;exact r5
  |6,hx=>cases hx;exact r6)
theorem Zh:Rows.TopRepeatsSaid:=
 OpenClaim.holds_of_wide 3 iW rfl rfl rfl rfl rfl rfl rfl ⟨rfl,rfl,rfl,rfl,rfl⟩ rfl rfl rfl rfl rfl PH Jj Zp
  (of_decide_eq_true Zn) (by unfold Func.isWrapper;first|(rw[if_pos (by decide +kernel)];kernel_rfl)|(rw[if_neg (by decide +kernel)];exact⟨rfl,rfl⟩))
  (λos started H enc _=>Zi os started H enc)
theorem topRepeats_holds:Rows.TopRepeatsCardSaid:=
 Claim7.holds_tied_plain_at .later [] [.data, .data, .data, .data, .pinned] true (true, "313e60e670179798dc0b112a741ead5535cd87441bbd32444476bc9cb08109c8") true
  Zh (λ_ h=>by cases h) Zj (λ_ h=>by cases h) topRepeats_row_tie rfl ⟨rfl,rfl⟩ Zl rfl
  (λf fn hf q_=>by
   obtain rfl:f=3:=Option.some.inj (PH.symm.trans hf)|>.symm;obtain rfl:fn=iW:=(Option.some.inj (Jj.symm.trans q_)).symm;exact⟨Zm,λj t ht=>by
    rw[Xo]at ht;have hm:t∈[37,38,3,39]:=by have hh:=Array.mem_of_getElem? ht;simp only[List.mem_toArray,List.mem_cons,List.not_mem_nil,or_false]at hh⊢;rcases hh with rfl|rfl|rfl|rfl|rfl|rfl|rfl<;>simp
    exact(show aa.wantsStandIn t=false by simpa using List.all_eq_true.1 Zk t hm)⟩)
  Zo
#print axioms topRepeats_holds
end Go.Proofs.YtafmfhkplgapjaaGreatDoor
