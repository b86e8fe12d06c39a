/- Tmp27: AskZb, AskZp, in one text. -/
import Derived.Test.YtbkdakbhagjkhaaGreatDoorAskZa
import Derived.Test.YtbkdakbhagjkhaaGreatDoorAskYh
set_option linter.unusedVariables false
namespace Go.Proofs.YtbkdakbhagjkhaaGreatDoor
open Go.RowKit
open Go.Lib (hid byteCells itoa)
def Tm.g (t:Tm):Tg:=⟨t.var,t.val.kind,t.val.t,t.val.n,t.val.m,t.val.s,0⟩
def Lt.g (x:Lt):Lg:=⟨x.op,x.nt,x.rel,x.args.map Tm.g⟩
def Ru.g (r:Ru):Rg:=⟨r.head.g,r.agg,r.at_,r.body.map Lt.g⟩
def Qu.g (q:Qu):Qg:=⟨q.rules.map Ru.g,q.goal.g⟩
theorem SlR.map {α β:Type} {sz:Nat} {R:Rel α} {R':Rel β} {S:Foot} {w:World} {l:List α} {v:Value} (h:SlR sz R S w l v) (f:α→β) (hf:∀ x cs,R S w x cs→R' S w (f x) cs):SlR sz R' S w (l.map f) v:=by
 obtain ⟨a,cap,b,off,cs,rfl,hc,hn,hcell,hx⟩:=h; refine ⟨a,cap,b,off,cs,by rw [List.length_map],by rw [List.length_map]; exact hc,by rw [List.length_map]; exact hn,by rw [List.length_map]; exact hcell,fun i y hy=>?_⟩; rw [List.getElem?_map] at hy
 cases hi:l[i]? with
 | none=>rw [hi] at hy; cases hy
 | some x =>
  rw [hi] at hy; injection hy with hy; subst hy; exact hf x _ (hx i x hi)
theorem fl_g {S:Foot} {w:World} {l:List Tm} {v:Value} (h:SlR 7 FlR S w l v):SlR 7 TgR S w (l.map Tm.g) v :=
 h.map Tm.g fun x cs hx=>⟨none,0,hx⟩
theorem ld_g {S:Foot} {w:World} {l:List (Option Nat × Lt)} {v:Value} (h:SlR 4 LdR S w l v):SlR 4 LgR S w (l.map fun x=>x.2.g) v :=
 h.map (fun x=>x.2.g) fun x cs hx=>by
  obtain ⟨v,rfl,-,ho⟩:=hx; obtain ⟨a,c,rfl,-⟩:=ho.slice; have:=fl_g (ho.sl goodFl); exact ⟨a,c,by show _=(lcells x.2.op x.2.nt x.2.rel (.slice a (x.2.args.map Tm.g).length c)).toList; rw [List.length_map],by show SlR 7 TgR S w (x.2.args.map Tm.g) (.slice a (x.2.args.map Tm.g).length c); rw [List.length_map]; exact this⟩
theorem ru_g {S:Foot} {w:World} {l:List RuD} {v:Value} (h:SlR 7 RuR S w l v):SlR 7 RgR S w (l.map fun x=>x.ru.g) v :=
 h.map (fun x=>x.ru.g) fun x cs hx=>by
  obtain ⟨hv,bv,rfl,-,ho,-,hb⟩:=hx; obtain ⟨a,c,rfl,-⟩:=ho.slice; obtain ⟨d,e,rfl,-⟩:=hb.slice; have h1:=fl_g (ho.sl goodFl); have h2:=ld_g (hb.sl goodLd)
  have e1:x.ru.g.head.args.length=x.head.2.args.length:=by show (x.head.2.args.map Tm.g).length=_; rw [List.length_map]
  have e2:x.ru.g.body.length=x.body.length:=by show ((x.body.map (·.2)).map Lt.g).length=_; rw [List.length_map,List.length_map]
  have e3:x.ru.g.body=x.body.map fun y=>y.2.g:=by show (x.body.map (·.2)).map Lt.g=_; rw [List.map_map]; rfl
  refine ⟨a,c,d,e,by rw [e1,e2]; rfl,by rw [e1]; exact h1,by rw [e2,e3]; exact h2⟩
/-- a row in memory is no longer than a slice may be -/
theorem own_max {α:Type} {E:TypeId} {sz:Nat} {R:Rel α} {S:Foot} {w:World} {l:List α} {v:Value} (h:OwnR E sz R S w l v):l.length≤9223372036854775807:=by
 obtain ⟨a,c,-,h1,h2⟩:=h.slice; unfold maxLen at h2; omega
theorem lok_g {S:Foot} {w:World} {x:Lt} {v:Value} (h:OwnR 44 7 FlR S w x.args v):Lok x.g:=by
 refine ⟨by show (x.args.map Tm.g).length≤_; rw [List.length_map]; exact own_max h,fun t ht=>?_⟩; obtain ⟨y,-,rfl⟩:=List.mem_map.1 (show t∈x.args.map Tm.g from ht); rfl
theorem rok_g {S:Foot} {w:World} {x:RuD} {cs:List Value} (h:RuR S w x cs):Rok x.ru.g:=by
 obtain ⟨hv,bv,rfl,-,ho,-,hb⟩:=h; refine ⟨lok_g (x:=x.head.2) ho,?_,fun y hy=>?_⟩
 ·show ((x.body.map (·.2)).map Lt.g).length≤_
  rw [List.length_map,List.length_map]; exact own_max hb
 ·obtain ⟨z,hz,rfl⟩:=List.mem_map.1 (show y∈(x.body.map (·.2)).map Lt.g from hy)
  obtain ⟨u,hu,rfl⟩:=List.mem_map.1 hz; obtain ⟨i,hi⟩:=List.mem_iff_getElem?.1 hu; obtain ⟨xs,g1,g2,g3⟩:=hb; obtain ⟨cs,g4,g5⟩:=g3 i u hi; obtain ⟨v1,rfl,-,ho1⟩:=g5; exact lok_g ho1
theorem qok_g {S S':Foot} {w:World} {q:Qu} {zs:List RuD} {rv av:Value} (h:OwnR 38 7 RuR S w zs rv) (hz:zs.map RuD.ru=q.rules) (hg:OwnR 44 7 FlR S' w q.goal.args av):Qok q.g:=by
 refine ⟨?_,fun r hr=>?_,lok_g hg⟩
 ·show (q.rules.map Ru.g).length≤_
  rw [← hz,List.length_map,List.length_map]; exact own_max h
 ·obtain ⟨y,hy,rfl⟩:=List.mem_map.1 (show r∈q.rules.map Ru.g from hr)
  rw [← hz] at hy; obtain ⟨u,hu,rfl⟩:=List.mem_map.1 hy; obtain ⟨i,hi⟩:=List.mem_iff_getElem?.1 hu; obtain ⟨xs,g1,g2,g3⟩:=h; obtain ⟨cs,g4,g5⟩:=g3 i u hi; exact rok_g g5
/-- what Parse answers, as it is used -/
def PParseG (w:World) (r:Except (Int × Int) Qu) (e:Ending) (w':World):Prop :=
 Below w.heap.size w w'∧match r with
 | .ok q=>Qok q.g∧∃ ra rc aa ac,e=.returned (.tuple #[.agg (qcells (.slice ra q.g.rules.length rc) q.g.goal.op q.g.goal.nt q.g.goal.rel (.slice aa q.g.goal.args.length ac)),iv 0,iv 0])∧SlR 7 RgR (from_ w.heap.size) w' q.g.rules (.slice ra q.g.rules.length rc)∧SlR 7 TgR (from_ w.heap.size) w' q.g.goal.args (.slice aa q.g.goal.args.length ac)
 | .error x=>e=.returned (.tuple #[.agg (qcells (.slice none 0 0) 0 false [] (.slice none 0 0)),iv x.1,iv x.2])
theorem parse_g (s:List UInt8) (w:World) (hs:s.length≤1000000) (hTab:Tab w):Calls Tryz.prog 7 #[sv s] w (PParseG w (parseF s)):=by
 refine (askParse_any s w hs hTab).mono ?_; rintro e w' ⟨h1,h2⟩; refine ⟨h1,?_⟩; generalize parseF s=r at *
 cases r with
 | error x=>exact h2
 | ok q =>
  obtain ⟨rv,av,zs,rfl,hz,hzr,hg⟩:=h2
  have e1:q.g.rules=zs.map fun x=>x.ru.g:=by show q.rules.map Ru.g=_; rw [← hzr,List.map_map]; rfl
  have k1:=ru_g (hz.sl goodRu); have k2:=fl_g (hg.sl goodFl); rw [← e1] at k1; obtain ⟨ra,rc,rfl,-⟩:=k1.slice; obtain ⟨aa,ac,rfl,-⟩:=k2.slice; exact ⟨qok_g hz hzr hg,ra,rc,aa,ac,rfl,k1,k2⟩
end Go.Proofs.YtbkdakbhagjkhaaGreatDoor
namespace Go.Proofs.YtbkdakbhagjkhaaGreatDoor
open Go.RowKit
open Go.Lib (hid byteCells itoa)
/-- the bounds that the writer asks for, as a test -/
def lgB (x:Lg):Bool:=decide (x.rel.length≤40000) && decide (x.args.length≤100000) && x.args.all fun t=>decide (t.var.length≤40000)
def qgB (q:Qg):Bool:=(q.rules.all fun r=>lgB r.head && decide (r.body.length≤100000) && r.body.all lgB) && lgB q.goal
theorem lgB_ok {x:Lg} (h:lgB x=true):LgB x:=by
 unfold lgB at h; simp only [Bool.and_eq_true,decide_eq_true_eq,List.all_eq_true] at h; exact ⟨h.1.1,h.1.2,h.2⟩
theorem qgB_ok {q:Qg} (h:qgB q=true):QgB q:=by
 unfold qgB at h; simp only [Bool.and_eq_true,decide_eq_true_eq,List.all_eq_true] at h; exact ⟨fun r hr=>⟨lgB_ok (h.1 r hr).1.1,(h.1 r hr).1.2,fun x hx=>lgB_ok ((h.1 r hr).2 x hx)⟩,lgB_ok h.2⟩
def exS1:List UInt8:=[108,97,116,101,40,112,44,32,99,111,117,110,116,40,116,41,41,32,58,45,32,104,97,110,100,108,101,100,40,116,44,32,112,44,32,34,71,101,116,34,41,44,32,110,111,116,32,100,111,110,101,40,112,44,32,95,41,44,32,116,32,60,32,49,48,48,46,32,63,32,108,97,116,101,40,112,44,32,110,41]
def exS2:List UInt8:=[114,40,116,41,32,58,45,32,111,110,99,101,32,102,97,105,108,101,100,40,112,44,32,95,41,32,98,101,102,111,114,101,32,116,44,32,101,118,101,110,116,40,116,44,32,95,41,46,32,63,32,114,40,116,41]
def exS3:List UInt8:=[114,40,116,41,32,58,45,32,102,97,105,108,101,100,40,84,49,44,32,112,44,32,95,41,44,32,84,49,32,60,32,116,44,32,101,118,101,110,116,40,116,44,32,95,41,46,32,63,32,114,40,116,41]
def exS4:List UInt8:=[114,40,95,41,32,58,45,32,112,40,120,41,46,32,63,32,114,40,120,41]
def exS5:List UInt8:=[114,40,120,41,32,58,45,32,112,40,120,41]
def exS6:List UInt8:=[114,40,116,41,32,58,45,32,101,118,101,110,116,40,116,44,32,95,41,44,32,110,101,118,101,114,32,112,40,120,44,32,121,44,32,51,41,32,97,102,116,101,114,32,116,44,32,112,40,116,44,32,120,44,32,121,44,32,51,41,46,32,63,32,114,40,116,41]
def exQ1:Qu:=⟨[⟨⟨0,false,[108,97,116,101],[⟨[112],⟨0,[],0,0,[],[]⟩⟩,⟨[116],⟨0,[],0,0,[],[]⟩⟩]⟩,1,1,[⟨0,false,[104,97,110,100,108,101,100],[⟨[116],⟨0,[],0,0,[],[]⟩⟩,⟨[112],⟨0,[],0,0,[],[]⟩⟩,⟨[],⟨4,[],0,0,[71,101,116],[]⟩⟩]⟩,⟨0,true,[100,111,110,101],[⟨[112],⟨0,[],0,0,[],[]⟩⟩,⟨[95,49],⟨0,[],0,0,[],[]⟩⟩]⟩,⟨3,false,[],[⟨[116],⟨0,[],0,0,[],[]⟩⟩,⟨[],⟨3,[],100,0,[],[]⟩⟩]⟩]⟩],⟨0,false,[108,97,116,101],[⟨[112],⟨0,[],0,0,[],[]⟩⟩,⟨[110],⟨0,[],0,0,[],[]⟩⟩]⟩⟩
def exQ2:Qu:=⟨[⟨⟨0,false,[114],[⟨[116],⟨0,[],0,0,[],[]⟩⟩]⟩,0,0,[⟨0,false,[102,97,105,108,101,100],[⟨[84,49],⟨0,[],0,0,[],[]⟩⟩,⟨[112],⟨0,[],0,0,[],[]⟩⟩,⟨[95,49],⟨0,[],0,0,[],[]⟩⟩]⟩,⟨3,false,[],[⟨[84,49],⟨0,[],0,0,[],[]⟩⟩,⟨[116],⟨0,[],0,0,[],[]⟩⟩]⟩,⟨0,false,[101,118,101,110,116],[⟨[116],⟨0,[],0,0,[],[]⟩⟩,⟨[95,50],⟨0,[],0,0,[],[]⟩⟩]⟩]⟩],⟨0,false,[114],[⟨[116],⟨0,[],0,0,[],[]⟩⟩]⟩⟩
def exQ6:Qu:=⟨[⟨⟨0,false,[114],[⟨[116],⟨0,[],0,0,[],[]⟩⟩]⟩,0,0,[⟨0,false,[101,118,101,110,116],[⟨[116],⟨0,[],0,0,[],[]⟩⟩,⟨[95,49],⟨0,[],0,0,[],[]⟩⟩]⟩,⟨0,true,[97,117,120,49],[⟨[116],⟨0,[],0,0,[],[]⟩⟩,⟨[120],⟨0,[],0,0,[],[]⟩⟩,⟨[121],⟨0,[],0,0,[],[]⟩⟩]⟩,⟨0,false,[112],[⟨[116],⟨0,[],0,0,[],[]⟩⟩,⟨[120],⟨0,[],0,0,[],[]⟩⟩,⟨[121],⟨0,[],0,0,[],[]⟩⟩,⟨[],⟨3,[],3,0,[],[]⟩⟩]⟩]⟩,⟨⟨0,false,[97,117,120,49],[⟨[84,49],⟨0,[],0,0,[],[]⟩⟩,⟨[120],⟨0,[],0,0,[],[]⟩⟩,⟨[121],⟨0,[],0,0,[],[]⟩⟩]⟩,0,0,[⟨0,false,[101,118,101,110,116],[⟨[84,49],⟨0,[],0,0,[],[]⟩⟩,⟨[95,49],⟨0,[],0,0,[],[]⟩⟩]⟩,⟨0,false,[112],[⟨[84,50],⟨0,[],0,0,[],[]⟩⟩,⟨[120],⟨0,[],0,0,[],[]⟩⟩,⟨[121],⟨0,[],0,0,[],[]⟩⟩,⟨[],⟨3,[],3,0,[],[]⟩⟩]⟩,⟨3,false,[],[⟨[84,49],⟨0,[],0,0,[],[]⟩⟩,⟨[84,50],⟨0,[],0,0,[],[]⟩⟩]⟩]⟩],⟨0,false,[114],[⟨[116],⟨0,[],0,0,[],[]⟩⟩]⟩⟩
def exT:List UInt8:=[114,40,116,41,32,58,45,32,101,118,101,110,116,40,116,44,32,95,41,44,32,110,111,116,32,97,117,120,49,40,116,44,32,120,44,32,121,41,44,32,112,40,116,44,32,120,44,32,121,44,32,51,41,46,10,97,117,120,49,40,84,49,44,32,120,44,32,121,41,32,58,45,32,101,118,101,110,116,40,84,49,44,32,95,41,44,32,112,40,84,50,44,32,120,44,32,121,44,32,51,41,44,32,84,49,32,60,32,84,50,46,10,63,32,114,40,116,41]
def q00:Qg:=⟨[],⟨0,false,[],[]⟩⟩
theorem exP1:parseF exS1=.ok exQ1:=by kernel_rfl
theorem exP2:parseF exS2=.ok exQ2:=by kernel_rfl
theorem exP3:parseF exS3=.ok exQ2:=by kernel_rfl
theorem exP4:parseF exS4=.error (2,2):=by kernel_rfl
theorem exP5:parseF exS5=.error (2,12):=by kernel_rfl
theorem exP6:parseF exS6=.ok exQ6:=by kernel_rfl
theorem exB1:QgB exQ1.g:=qgB_ok (by kernel_rfl)
theorem exB6:QgB exQ6.g:=qgB_ok (by kernel_rfl)
theorem exB0:QgB q00:=qgB_ok (by kernel_rfl)
theorem exW1:(textW exQ1.g).isSome=true:=by kernel_rfl
theorem exW6:textW exQ6.g=some exT:=by kernel_rfl
theorem exW0:textW q00=none:=by kernel_rfl
end Go.Proofs.YtbkdakbhagjkhaaGreatDoor
