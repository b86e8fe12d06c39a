/- ask: side. -/
import Derived.Test.YtffdpoifdahadaaGreatDoorAskI
set_option linter.unusedVariables false
set_option maxHeartbeats 40000000
set_option maxRecDepth 100000
namespace Go.Proofs.YtffdpoifdahadaaGreatDoor
open Go.RowKit
open Go.Lib (hid itoa)
theorem qD (w:World) (k:Nat):w.drew.heap[k]? = w.heap[k]?:=rfl
def PSide (pb:Nat) (K:PK) (w:World) (r:Option (Bool × Tm) × PSt) (e:Ending) (w':World):Prop :=
 PM pb K r.2 w'/\Fr (one pb) w w'/\match r.1 with
 | some x=>e=.returned (.tuple #[.bool x.1,.agg (aB x.2),.bool true])
 | none=>∃ b x,e=.returned (.tuple #[.bool b,.agg (aB x),.bool false])
theorem gV {fn:Func} {a p u:Tmp} (h:fn.results=#[.tmp a,.cell p 63,.tmp u]) (tmps:Array Value) (w:World) (R:Nat) (t:Tm) (b x:Bool) (ha:tmps.getD a undef=.bool b) (hp:tmps.getD p undef=.pointer (some ⟨R,0,none⟩)) (hu:tmps.getD u undef=.bool x) (hR:w.heap[R]? = some (.cells (aB t) 63 (0,0))) :
  (results fn tmps).run Tryz.prog w=.ok (.tuple #[.bool b,.agg (aB t),.bool x]) w:=by
 have e:(results fn tmps).run Tryz.prog w=((asAddr (tmps.getD p undef)).run Tryz.prog w).andThen fun a' w₁=>((loadVar 63 a').run Tryz.prog w₁).andThen fun v w₂=>.ok (.tuple #[tmps.getD a undef,v,tmps.getD u undef]) w₂:=by
  simp only [results,h]; simp [Sem.run_bind,Result.andThen]
 rw [e,hp,hu,ha]; simp only [asAddr,Sem.run_pure,Result.andThen_ok]; rw [run_loadVar_row w R 63 63 _ (0,0) _ hR Tryz.underlying63 rfl (by kernel_rfl)]; rfl
theorem jl (pb:Nat) (K:PK) (st:PSt) (w:World) (h:PM pb K st w) :
  Calls Tryz.prog 98 #[pt pb] w fun e w'=>∃ x:Tm,e=.returned (.tuple #[.agg (aB x),.bool (aT K.ts st).1.isSome])/\(∀ t,(aT K.ts st).1=some t->t=x)/\PM pb K (aT K.ts st).2 w'/\Fr (one pb) w w':=by
 refine (lP pb K st w h).mono ?_; rintro e w' ⟨rfl,h1,h2⟩; generalize aT K.ts st=r at *; obtain ⟨o,s⟩:=r
 cases o with
 | some t=>exact ⟨t,rfl,fun y hy=>by cases hy; rfl,h1,h2⟩
 | none=>exact ⟨tm0,rfl,(fun y hy=>by cases hy),h1,h2⟩
theorem vE (pb:Nat) (K:PK) (st:PSt) (w:World) (h:PM pb K st w) :
  Calls Tryz.prog 113 #[pt pb] w (PSide pb K w (cW K.ts st)):=by
 obtain ⟨R,hR⟩:∃ R,R=cW K.ts st:=⟨_,rfl⟩; rw [← hR]; unfold cW at hR; have hh:=hid h; have hpl:=h.lt
 have hne:¬ pb=w.heap.size:=by omega
 have hne2:¬ w.heap.size=pb:=by omega
 have hbA:=(zN w.heap.size w).alloc (zM _) (.cells #[.string ⟨#[]⟩,.int .i64 0,.string ⟨#[]⟩,.int .i64 0,.int .i64 0,.string ⟨#[]⟩,.slice none 0 0] 63); have hMA:=hid (h.below hbA); have hrA:=hid (show (w.alloc (.cells #[.string ⟨#[]⟩,.int .i64 0,.string ⟨#[]⟩,.int .i64 0,.int .i64 0,.string ⟨#[]⟩,.slice none 0 0] 63)).heap[w.heap.size]? = some (.cells (aB tm0) 63 (0,0)) from af _ _); have hfA:=hid (Fr.of_below hbA (one pb)); obtain ⟨z1,hz1⟩:∃ z,isP K.ts st 1 [98,101,102,111,114,101]=z:=⟨_,rfl⟩; have hw1:=hid (eE pb K st [98,101,102,111,114,101] _ hMA.out)
 have hT1:bu K.ts st 1 [98,101,102,111,114,101]=if z1 then (true,am st) else (false,st):=by unfold bu; rw [hz1]
 rw [hT1] at hw1; clear hT1; replace hz1:=hid hz1; rw [show isP K.ts st 1 [98,101,102,111,114,101]=z1 from hz1.out] at hR; replace hR:=hid hR; clear h hbA
 go_enter Tryz.func113,Tryz.ntmps113
 go_wp2_with fail
 with_reducible refine hw1.out.mono ?_
 rintro e w1 ⟨rfl,hM1,hf1⟩; have hr1:=hid ((hf1.block w.heap.size (ae hrA.out) hne2).trans hrA.out); have hfr1:=hid (hfA.out.trans hf1); clear hf1 hw1 hrA hfA hMA
 cases z1 with
 | true =>
  have hM:=hid (show PM pb K (am st) w1 from hM1); have hr:=hr1; have hf:=hfr1; clear hM1 hr1 hfr1; replace hR:=hid (show R=im true (aT K.ts (am st)) from hR.out)
  go_wp2_with fail
  obtain ⟨ro,hro⟩:∃ ro,ro=aT K.ts (am st):=⟨_,rfl⟩; have hte:=hid (jl pb K (am st) w1 hM.out); rw [← hro] at hte; replace hR:=hid (show R=im true ro from by rw [hro]; exact hR.out); replace hro:=hid hro; obtain ⟨ot,s3⟩:=ro; replace hte:=hid (show Calls Tryz.prog 98 #[pt pb] w1 fun e w'=>∃ x:Tm,e=.returned (.tuple #[.agg (aB x),.bool ot.isSome])/\(∀ t,ot=some t->t=x)/\PM pb K s3 w'/\Fr (one pb) w1 w' from hte.out); obtain ⟨z,hz⟩:∃ z,ot.isSome=z:=⟨_,rfl⟩; rw [hz] at hte; replace hz:=hid hz
  go_wp2_with fail
  with_reducible refine hte.out.mono ?_
  rintro e w3 ⟨x,rfl,hx,hM3,hf3⟩; have hpn:=hM3.lt; have hr3:=hid ((hf3.block w.heap.size (ae hr.out) hne2).trans hr.out); have hfr3:=hid (hf.out.trans hf3); have hs3:=ae hr3.out; have hMt:=hid hM3; clear hM3 hf3 hte; replace hx:=hid hx; have hR2:Hid (R.2=s3):=hid (by rw [hR.out]; cases ot <;> rfl); have hR1:Hid (R.1=ot.map (fun t=>(true,t))):=hid (by rw [hR.out]; cases ot <;> rfl); have hMa:=hid (hMt.out.below ((zN w3.heap.size w3).alloc (zM _) (.cells (aB x) 63))); have hra:=(z7 w3 (.cells (aB x) 63) _ hs3).trans hr3.out; have hfa:=hid (hfr3.out.alloc (.cells (aB x) 63)); have hrn:=af w3 (.cells (aB x) 63)
  obtain ⟨q0,q1,q2,q3,q4,q5,q6,fz⟩:=aH (show (w3.alloc (.cells (aB x) 63)).drew.heap[w.heap.size]? = _ from hra); obtain ⟨m0,m1,m2,m3,m4,m5,m6,-⟩:=aH (show (w3.alloc (.cells (aB x) 63)).drew.heap[w3.heap.size]? = _ from hrn); have fz0:=fz 0; have fz1:=fz 1; have fz2:=fz 2; have fz3:=fz 3; have fz4:=fz 4; have fz5:=fz 5; have fz6:=fz 6
  have hne8:¬ w3.heap.size=w.heap.size:=by omega
  have hne9:¬ w.heap.size=w3.heap.size:=by omega
  obtain ⟨p0,p1,p2,p3,p4,p5,p6,gz⟩:=aH hra; have gz0:=gz 0; have gz1:=gz 1; have gz2:=gz 2; have gz3:=gz 3; have gz4:=gz 4; have gz5:=gz 5; have gz6:=gz 6; clear fz gz hrn; replace hra:=hid hra
  go_wp2_with fail
  generalize hW4:w3.alloc (.cells (aB x) 63)=W4 at *; clear hW4
  go_region
  all_goals go_wp2_with fail
  all_goals
   have hF:=(hfa.out.setTm (zM w.heap.size) x).drew; have ho1:(setTm W4 w.heap.size x).heap[pb]? = W4.heap[pb]?:=a_ (t:=x) hne; have hP0:PM pb K s3 (setTm W4 w.heap.size x):=hh.out.fr (hfa.out.setTm (zM w.heap.size) x) (ho1.trans hMa.out.blk) hMa.out.nx; have hP:PM pb K s3 (setTm W4 w.heap.size x).drew:=hP0.below ((zN _ _).drew); have hrz:(setTm W4 w.heap.size x).drew.heap[w.heap.size]? = some (.cells (aB x) 63 (0,0)):=(qD _ _).trans (cK hra.out x); refine bodyPost_ret (v:=.tuple #[.bool true,.agg (aB x),.bool z]) (gV (by rfl) _ _ w.heap.size x true z (by rfl) (by rfl) (by rfl) hrz) rfl ⟨by rw [hR2.out]; exact hP,hF,?_⟩; rw [hR1.out,← hz.out]
   cases ot with
   | some t=>rw [hx.out t rfl]; rfl
   | none=>exact ⟨true,x,rfl⟩
 | false =>
  have hM1':=hid (show PM pb K st w1 from hM1); clear hM1; obtain ⟨z2,hz2⟩:∃ z,isP K.ts st 1 [97,102,116,101,114]=z:=⟨_,rfl⟩; have hw2:=hid (eE pb K st [97,102,116,101,114] _ hM1'.out)
  have hT2:bu K.ts st 1 [97,102,116,101,114]=if z2 then (true,am st) else (false,st):=by unfold bu; rw [hz2]
  rw [hT2] at hw2; clear hT2; replace hz2:=hid hz2; replace hR:=hid (show R=if z2=true then im false (aT K.ts (am st)) else (none,bf st) from by rw [← hz2.out]; exact hR.out)
  go_wp2_with fail
  with_reducible refine hw2.out.mono ?_
  rintro e w2 ⟨rfl,hM2,hf2⟩; have hr:=hid ((hf2.block w.heap.size (ae hr1.out) hne2).trans hr1.out); have hf:=hid (hfr1.out.trans hf2); clear hf2 hw2 hr1 hfr1 hM1'
  cases z2 with
  | true =>
   have hM:=hid (show PM pb K (am st) w2 from hM2); clear hM2; replace hR:=hid (show R=im false (aT K.ts (am st)) from hR.out)
   go_wp2_with fail
   obtain ⟨ro,hro⟩:∃ ro,ro=aT K.ts (am st):=⟨_,rfl⟩; have hte:=hid (jl pb K (am st) w2 hM.out); rw [← hro] at hte; replace hR:=hid (show R=im false ro from by rw [hro]; exact hR.out); replace hro:=hid hro; obtain ⟨ot,s3⟩:=ro; replace hte:=hid (show Calls Tryz.prog 98 #[pt pb] w2 fun e w'=>∃ x:Tm,e=.returned (.tuple #[.agg (aB x),.bool ot.isSome])/\(∀ t,ot=some t->t=x)/\PM pb K s3 w'/\Fr (one pb) w2 w' from hte.out); obtain ⟨z,hz⟩:∃ z,ot.isSome=z:=⟨_,rfl⟩; rw [hz] at hte; replace hz:=hid hz
   go_wp2_with fail
   with_reducible refine hte.out.mono ?_
   rintro e w3 ⟨x,rfl,hx,hM3,hf3⟩; have hpn:=hM3.lt; have hr3:=hid ((hf3.block w.heap.size (ae hr.out) hne2).trans hr.out); have hfr3:=hid (hf.out.trans hf3); have hs3:=ae hr3.out; have hMt:=hid hM3; clear hM3 hf3 hte; replace hx:=hid hx; have hR2:Hid (R.2=s3):=hid (by rw [hR.out]; cases ot <;> rfl); have hR1:Hid (R.1=ot.map (fun t=>(false,t))):=hid (by rw [hR.out]; cases ot <;> rfl); have hMa:=hid (hMt.out.below ((zN w3.heap.size w3).alloc (zM _) (.cells (aB x) 63))); have hra:=(z7 w3 (.cells (aB x) 63) _ hs3).trans hr3.out; have hfa:=hid (hfr3.out.alloc (.cells (aB x) 63)); have hrn:=af w3 (.cells (aB x) 63)
   obtain ⟨q0,q1,q2,q3,q4,q5,q6,fz⟩:=aH (show (w3.alloc (.cells (aB x) 63)).drew.heap[w.heap.size]? = _ from hra); obtain ⟨m0,m1,m2,m3,m4,m5,m6,-⟩:=aH (show (w3.alloc (.cells (aB x) 63)).drew.heap[w3.heap.size]? = _ from hrn); have fz0:=fz 0; have fz1:=fz 1; have fz2:=fz 2; have fz3:=fz 3; have fz4:=fz 4; have fz5:=fz 5; have fz6:=fz 6
   have hne8:¬ w3.heap.size=w.heap.size:=by omega
   have hne9:¬ w.heap.size=w3.heap.size:=by omega
   obtain ⟨p0,p1,p2,p3,p4,p5,p6,gz⟩:=aH hra; have gz0:=gz 0; have gz1:=gz 1; have gz2:=gz 2; have gz3:=gz 3; have gz4:=gz 4; have gz5:=gz 5; have gz6:=gz 6; clear fz gz hrn; replace hra:=hid hra
   go_wp2_with fail
   generalize hW4:w3.alloc (.cells (aB x) 63)=W4 at *; clear hW4
   go_region
   all_goals go_wp2_with fail
   all_goals
    have hF:=(hfa.out.setTm (zM w.heap.size) x).drew; have ho1:(setTm W4 w.heap.size x).heap[pb]? = W4.heap[pb]?:=a_ (t:=x) hne; have hP0:PM pb K s3 (setTm W4 w.heap.size x):=hh.out.fr (hfa.out.setTm (zM w.heap.size) x) (ho1.trans hMa.out.blk) hMa.out.nx; have hP:PM pb K s3 (setTm W4 w.heap.size x).drew:=hP0.below ((zN _ _).drew); have hrz:(setTm W4 w.heap.size x).drew.heap[w.heap.size]? = some (.cells (aB x) 63 (0,0)):=(qD _ _).trans (cK hra.out x); refine bodyPost_ret (v:=.tuple #[.bool false,.agg (aB x),.bool z]) (gV (by rfl) _ _ w.heap.size x false z (by rfl) (by rfl) (by rfl) hrz) rfl ⟨by rw [hR2.out]; exact hP,hF,?_⟩; rw [hR1.out,← hz.out]
    cases ot with
    | some t=>rw [hx.out t rfl]; rfl
    | none=>exact ⟨false,x,rfl⟩
  | false =>
   have hM:=hid (show PM pb K st w2 from hM2); clear hM2; replace hR:=hid (show R=(none,bf st) from hR.out); have hfl:=hid (dw pb K st w2 hM.out)
   go_wp2_with fail
   with_reducible refine hfl.out.mono ?_
   rintro e w3 ⟨rfl,hM3,hf3⟩; have hr3:=hid ((hf3.block w.heap.size (ae hr.out) hne2).trans hr.out); have hfr3:=hid (hf.out.trans hf3); replace hM3:=hid hM3; obtain ⟨q0,q1,q2,q3,q4,q5,q6,fz⟩:=aH hr3.out; have fz0:=fz 0; have fz1:=fz 1; have fz2:=fz 2; have fz3:=fz 3; have fz4:=fz 4; have fz5:=fz 5; have fz6:=fz 6; clear fz hf3 hfl hf hr
   go_wp2_with fail
   have hF:=hfr3.out.setTm (zM w.heap.size) tm0; have hP:=hh.out.fr hF ((a_ hne).trans hM3.out.blk) hM3.out.nx; refine bodyPost_ret (v:=.tuple #[.bool false,.agg (aB tm0),.bool false]) (gV (by rfl) _ _ w.heap.size tm0 false false (by rfl) (by rfl) (by rfl) (cK hr3.out tm0)) rfl ⟨by rw [hR.out]; exact hP,hF,?_⟩; rw [hR.out]; exact ⟨false,tm0,rfl⟩
end Go.Proofs.YtffdpoifdahadaaGreatDoor
