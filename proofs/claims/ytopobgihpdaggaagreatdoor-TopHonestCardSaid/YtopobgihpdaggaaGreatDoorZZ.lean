import Derived.Test.YtopobgihpdaggaaGreatDoorZ28
import Derived.Test.YtopobgihpdaggaaGreatDoorCards
import Derived.Carry
import Derived.Test.YtopobgihpdaggaaGreatDoorZ29
import Derived.Test.YtopobgihpdaggaaGreatDoorZ30
import Derived.Test.YtopobgihpdaggaaGreatDoorZ31
import Derived.Test.YtopobgihpdaggaaGreatDoorZ32
import Derived.Test.YtopobgihpdaggaaGreatDoorZ33
import Derived.Test.YtopobgihpdaggaaGreatDoorZ34
import Derived.Test.YtopobgihpdaggaaGreatDoorZ35
import Derived.Test.YtopobgihpdaggaaGreatDoorZ36
import Derived.Test.YtopobgihpdaggaaGreatDoorZ37
import Derived.Test.YtopobgihpdaggaaGreatDoorZ38
set_option linter.unusedVariables false
set_option linter.unusedSimpArgs false
/- The law TopHonest returns true for every input (a suite, a day, a district, a belief, and a proposed statement), and leaves its arguments as they were; the card ties the listed tables to the program's text.
Its conditions: those of the given row alone (the listed package variables start as the program's text lays them). -/
open Go.DataW renaming Trod->ue,TrodAll->Cv
open Go.Proofs.Tryz renaming checked->SV,f3->js,func3->EN,params3->SK,prog->ae
open Go.Proofs.Tryz
namespace Go.Proofs.YtopobgihpdaggaaGreatDoor
set_option maxRecDepth 100000
set_option maxHeartbeats 4000000
open Go.ChangeShapes Go.WideShapes Go.ChangeAt Go.RowKit Go.Ab
theorem U3 {H:Type}{enc:TypeId×Value->H}{P:Program}{w:World}{base:Nat}{spare:Nat->Bool}{held:Bool}{t t' Nj t3 t4:TypeId}{args:Array Value}{ds:List (DataW H)}{ps:List MemPlace}
  (h:Cv enc P w base spare held [t,t',Nj,t3,t4] args.toList ds ps):
  ∃v v' CF v3 v4 d d' Ee d3 d4 p p' C8 p3 p4,args=#[v,v',CF,v3,v4]/\ds=[d,d',Ee,d3,d4]/\ps=p++p'++C8++p3++p4/\ue enc P w base spare held t v d p/\ue enc P w base spare held t' v' d' p'/\
   ue enc P w base spare held Nj CF Ee C8/\ue enc P w base spare held t3 v3 d3 p3/\ue enc P w base spare held t4 v4 d4 p4:=by
 obtain⟨v,vs,d,ds1,p,q,Hv,rfl,rfl,hd,h1⟩:=trodAll_cons h;obtain⟨v',vs1,d',ds2,p',q1,rfl,rfl,rfl,Bt,h2⟩:=trodAll_cons h1;obtain⟨CF,vs2,Ee,ds3,C8,q2,rfl,rfl,rfl,eU,h3⟩:=trodAll_cons h2;obtain⟨v3,vs3,d3,ds4,p3,q3,rfl,rfl,rfl,yS,h4⟩:=trodAll_cons h3;obtain⟨v4,vs4,d4,ds5,p4,q4,rfl,rfl,rfl,hd4,h5⟩:=trodAll_cons h4;obtain⟨rfl,rfl,rfl⟩:=trodAll_nil h5;exact⟨v,v',CF,v3,v4,d,d',Ee,d3,d4,p,p',C8,p3,p4,by cases args;simp_all,rfl,by simp,hd,Bt,eU,yS,hd4⟩
theorem Vd:joinedFacts ae 3 js Rows.topHonestSpec Rows.topHonestRow=true:=by
 unfold joinedFacts;rw[VJ,VI,Vw,Vm,Vj,Vi,Vh,Vg,Vf,Ve,VH,VG,VF,VD,VC,VB,VA,Vz,Vy,Vx,Vv,Vu,Vt,Vs,Vr,Vq,Vp,Vo,Vn,Vl,Vk]
 kernel_rfl
theorem U8 (os:Os)(started:os.Started)(H:Type)(enc:TypeId×Value->H):
  ReturnsInHanded {} SV os 3 .any (λw args=>(Rows.topHonestSpec.pre enc ae js [] false w args/\laidMetH ae v_ w)/\sizedMet enc ae js (OpenSpec.ofChange Rows.topHonestSpec) false w args)
   (Rows.topHonestSpec.post enc ae js false true false false):=by
 refine returnsInHanded_of_change_and (C:=SV) (X:=λw _=>laidMetH ae v_ w) (λ_ _ _ hh h=>h.of_heap hh) own started aj EN
  (ChangeSpec.witness_shaped (enc:=enc) (C:=SV) (os:=os) (X:=λw _=>laidMetH ae v_ w) false (World.laidAll ae os v_) #[.agg #[.slice none 0 0, .slice none 0 0, .slice none 0 0, .int .i64 0, .int .i64 0, .int .i64 0, .int .i64 0, .int .i64 0, .int .i64 0, .int .i64 0, .int .i64 0, .slice none 0 0, .slice none 0 0, .slice none 0 0, .int .i64 0, .int .i64 0, .int .i64 0, .int .i64 0, .int .i64 0, .int .i64 0, .slice none 0 0, .int .i64 0, .int .i64 0, .int .i64 0, .int .i64 0], .int .i64 0, .int .i64 0, .slice none 0 0, .slice none 0 0] 8 (World.laidAll_os _ _ _) (World.shaped_of_ZipB aj aj) aj aj aj (agm os _)) ?_
 intro W base args ds gs before abm hW _ _ hL _;have nW:∀(j:Nat) t v,js.params[j]? =some t->args[j]? =some v->Value.okWide ae W .any base t v:=abm;have DX:=hW;obtain⟨p,q,tF,hV,pJ,Qi,rX⟩:=DX;have hA:Cv enc ae W 0 (λ_=>true) true js.params.toList args.toList ds p:=tF;rw[SK]at hA nW;obtain⟨v0,v1,v2,v3,v4,d0,d1,d2,d3,d4,p0,p1,p2,p3,p4,rfl,rfl,hp,h0,h1,h2,h3,h4⟩:=U3 hA;obtain⟨a0,k0,r0⟩:=agc (nW 0 37 v0 rfl rfl) h0;obtain⟨a1,r1⟩:=Sg (nW 1 3 v1 rfl rfl) h1;obtain⟨a2,r2⟩:=Sg (nW 2 3 v2 rfl rfl) h2;obtain⟨a3,k3,r3⟩:=Sf (nW 3 24 v3 rfl rfl) h3;obtain⟨a4,k4,r4⟩:=Sf (nW 4 24 v4 rfl rfl) h4;exact afT (s:=Rows.topHonestSpec) (Ds:=[fT a0,i64 a1,i64 a2,ints a3,ints a4]) rfl rfl underlying4 ⟨rfl,rfl,rfl⟩ aah ZO acP (by rw[SK];decide +kernel) (VP hL) hW (abG a0 k0 a1 a2 a3 a4 k3 k4 known20_ok) rfl (λq x hx=>by
  match q,hx with
  |0,hx=>cases hx;exact r0
  |1,hx=>cases hx;exact r1
  |2,hx=>cases hx;exact r2
  |3,hx=>cases hx;exact r3
  |4,hx=>cases hx;exact r4)
theorem U7:Rows.TopHonestSaid:=
 OpenClaim.holds_of_wide 3 js rfl rfl rfl rfl rfl rfl rfl ⟨rfl,rfl,rfl,rfl,rfl⟩ rfl rfl rfl rfl rfl Ni EN Vd
  (of_decide_eq_true Vb) (by unfold Func.isWrapper;first|(rw[if_pos (by decide +kernel)];kernel_rfl)|(rw[if_neg (by decide +kernel)];exact⟨rfl,rfl⟩))
  (λos started H enc _=>U8 os started H enc)
theorem topHonest_holds:Rows.TopHonestCardSaid:=
 Claim7.holds_tied_plain_at .later [] [.data, .data, .data, .data, .pinned] true (true, "a1ad5fcd0fb496f6c999da91ed331425c0fea1a31f28e93dd3a9ce9814b1fd39") true
  U7 (λ_ h=>by cases h) U9 (λ_ h=>by cases h) topHonest_row_tie rfl ⟨rfl,rfl⟩ U' rfl
  (λf fn hf tv=>by
   obtain rfl:f=3:=Option.some.inj (Ni.symm.trans hf)|>.symm;obtain rfl:fn=js:=(Option.some.inj (EN.symm.trans tv)).symm;exact⟨Va,λj t ht=>by
    rw[SK]at ht;have hm:t∈[37,3,24]:=by have hh:=Array.mem_of_getElem? ht;simp only[List.mem_toArray,List.mem_cons,List.not_mem_nil,or_false]at hh⊢;rcases hh with rfl|rfl|rfl|rfl|rfl<;>simp
    exact(show ae.wantsStandIn t=false by simpa using List.all_eq_true.1 U_ t hm)⟩)
  Vc
#print axioms topHonest_holds
end Go.Proofs.YtopobgihpdaggaaGreatDoor
