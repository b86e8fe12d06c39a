/- AskZb: AskZa, AskZb, in one text. -/
import Derived.Test.YtffdpoifdahadaaGreatDoorAskYe
import Derived.Test.YtffdpoifdahadaaGreatDoorAskYh
set_option linter.unusedVariables false
set_option linter.unusedSimpArgs false
namespace Go.Proofs.YtffdpoifdahadaaGreatDoor
open Go.RowKit
open Go.Lib (hid byteCells itoa)
def Tok (t:Tg):Prop:=t.ln=0
def Lok (x:Lg):Prop:=x.args.length<=9223372036854775807/\∀ t∈x.args,Tok t
def Rok (r:Rg):Prop:=Lok r.head/\r.body.length<=9223372036854775807/\∀ x∈r.body,Lok x
def Qok (q:Qg):Prop:=q.rules.length<=9223372036854775807/\(∀ r∈q.rules,Rok r)/\Lok q.goal
end Go.Proofs.YtffdpoifdahadaaGreatDoor
namespace Go.Proofs.YtffdpoifdahadaaGreatDoor
open Go.RowKit
open Go.Lib (hid byteCells itoa)
def Tm.g (t:Tm):Tg:=⟨t.var,t.val.kind,t.val.t,t.val.n,t.val.m,t.val.s,0⟩
def Lt.g (x:Lt):Lg:=⟨x.op,x.nt,x.rel,x.args.map Tm.g⟩
def Ru.g (r:Ru):Rg:=⟨r.head.g,r.agg,r.at_,r.body.map Lt.g⟩
def Qu.g (q:Qu):Qg:=⟨q.rules.map Ru.g,q.goal.g⟩
theorem SlR.map {α β:Type} {sz:Nat} {R:Rel α} {R':Rel β} {S:aP} {w:World} {l:List α} {v:Value} (h:SlR sz R S w l v) (f:α->β) (hf:∀ x cs,R S w x cs->R' S w (f x) cs):SlR sz R' S w (l.map f) v:=by
 obtain ⟨a,cap,b,off,cs,rfl,hc,hn,hcell,hx⟩:=h; refine ⟨a,cap,b,off,cs,by rw [zY],by rw [zY]; exact hc,by rw [zY]; exact hn,by rw [zY]; exact hcell,fun i y hy=>?_⟩; rw [Ai] at hy
 cases hi:l[i]? with
 | none=>rw [hi] at hy; cases hy
 | some x =>
  rw [hi] at hy; injection hy with hy; subst hy; exact hf x _ (hx i x hi)
theorem zC {S:aP} {w:World} {l:List Tm} {v:Value} (h:SlR 7 FlR S w l v):SlR 7 TgR S w (l.map Tm.g) v :=
 h.map Tm.g fun x cs hx=>⟨none,0,hx⟩
theorem ld_g {S:aP} {w:World} {l:List (Option Nat × Lt)} {v:Value} (h:SlR 4 LdR S w l v):SlR 4 LgR S w (l.map fun x=>x.2.g) v :=
 h.map (fun x=>x.2.g) fun x cs hx=>by
  obtain ⟨v,rfl,-,ho⟩:=hx; obtain ⟨a,c,rfl,-⟩:=ho.slice; have:=zC (ho.sl aD); exact ⟨a,c,by show _=(ap x.2.op x.2.nt x.2.rel (.slice a (x.2.args.map Tm.g).length c)).toList; rw [zY],by show SlR 7 TgR S w (x.2.args.map Tm.g) (.slice a (x.2.args.map Tm.g).length c); rw [zY]; exact this⟩
theorem ru_g {S:aP} {w:World} {l:List RuD} {v:Value} (h:SlR 7 RuR S w l v):SlR 7 RgR S w (l.map fun x=>x.ru.g) v :=
 h.map (fun x=>x.ru.g) fun x cs hx=>by
  obtain ⟨hv,bv,rfl,-,ho,-,hb⟩:=hx; obtain ⟨a,c,rfl,-⟩:=ho.slice; obtain ⟨d,e,rfl,-⟩:=hb.slice; have h1:=zC (ho.sl aD); have h2:=ld_g (hb.sl df)
  have e1:x.ru.g.head.args.length=x.head.2.args.length:=by show (x.head.2.args.map Tm.g).length=_; rw [zY]
  have e2:x.ru.g.body.length=x.body.length:=by show ((x.body.map (·.2)).map Lt.g).length=_; rw [zY,zY]
  have e3:x.ru.g.body=x.body.map fun y=>y.2.g:=by show (x.body.map (·.2)).map Lt.g=_; rw [List.map_map]; rfl
  refine ⟨a,c,d,e,by rw [e1,e2]; rfl,by rw [e1]; exact h1,by rw [e2,e3]; exact h2⟩
theorem oJ {α:Type} {E:TypeId} {sz:Nat} {R:Rel α} {S:aP} {w:World} {l:List α} {v:Value} (h:aO E sz R S w l v):l.length<=9223372036854775807:=by
 obtain ⟨a,c,-,h1,h2⟩:=h.slice; unfold maxLen at h2; omega
theorem wu {S:aP} {w:World} {x:Lt} {v:Value} (h:aO 63 7 FlR S w x.args v):Lok x.g:=by
 refine ⟨by show (x.args.map Tm.g).length<=_; rw [zY]; exact oJ h,fun t ht=>?_⟩; obtain ⟨y,-,rfl⟩:=List.mem_map.1 (show t∈x.args.map Tm.g from ht); rfl
theorem rok_g {S:aP} {w:World} {x:RuD} {cs:List Value} (h:RuR S w x cs):Rok x.ru.g:=by
 obtain ⟨hv,bv,rfl,-,ho,-,hb⟩:=h; refine ⟨wu (x:=x.head.2) ho,?_,fun y hy=>?_⟩
 ·show ((x.body.map (·.2)).map Lt.g).length<=_
  rw [zY,zY]; exact oJ hb
 ·obtain ⟨z,hz,rfl⟩:=List.mem_map.1 (show y∈(x.body.map (·.2)).map Lt.g from hy)
  obtain ⟨u,hu,rfl⟩:=List.mem_map.1 hz; obtain ⟨i,hi⟩:=List.mem_iff_getElem?.1 hu; obtain ⟨xs,g1,g2,g3⟩:=hb; obtain ⟨cs,g4,g5⟩:=g3 i u hi; obtain ⟨v1,rfl,-,ho1⟩:=g5; exact wu ho1
theorem qok_g {S S':aP} {w:World} {q:Qu} {zs:List RuD} {rv av:Value} (h:aO 27 7 RuR S w zs rv) (hz:zs.map RuD.ru=q.rules) (hg:aO 63 7 FlR S' w q.goal.args av):Qok q.g:=by
 refine ⟨?_,fun r hr=>?_,wu hg⟩
 ·show (q.rules.map Ru.g).length<=_
  rw [← hz,zY,zY]; exact oJ h
 ·obtain ⟨y,hy,rfl⟩:=List.mem_map.1 (show r∈q.rules.map Ru.g from hr)
  rw [← hz] at hy; obtain ⟨u,hu,rfl⟩:=List.mem_map.1 hy; obtain ⟨i,hi⟩:=List.mem_iff_getElem?.1 hu; obtain ⟨xs,g1,g2,g3⟩:=h; obtain ⟨cs,g4,g5⟩:=g3 i u hi; exact rok_g g5
def pc (w:World) (r:Except (Int × Int) Qu) (e:Ending) (w':World):Prop :=
 Below w.heap.size w w'/\match r with
 | .ok q=>Qok q.g/\∃ ra rc aa ac,e=.returned (.tuple #[.agg (aG (.slice ra q.g.rules.length rc) q.g.goal.op q.g.goal.nt q.g.goal.rel (.slice aa q.g.goal.args.length ac)),iv 0,iv 0])/\SlR 7 RgR (aF w.heap.size) w' q.g.rules (.slice ra q.g.rules.length rc)/\SlR 7 TgR (aF w.heap.size) w' q.g.goal.args (.slice aa q.g.goal.args.length ac)
 | .error x=>e=.returned (.tuple #[.agg (aG (.slice none 0 0) 0 false [] (.slice none 0 0)),iv x.1,iv x.2])
theorem sK (s:List UInt8) (w:World) (hs:s.length<=1000000) (hTab:Tab w):Calls Tryz.prog 19 #[sv s] w (pc w (de s)):=by
 refine (o_ s w hs hTab).mono ?_; rintro e w' ⟨h1,h2⟩; refine ⟨h1,?_⟩; generalize de s=r at *
 cases r with
 | error x=>exact h2
 | ok q =>
  obtain ⟨rv,av,zs,rfl,hz,hzr,hg⟩:=h2
  have e1:q.g.rules=zs.map fun x=>x.ru.g:=by show q.rules.map Ru.g=_; rw [← hzr,List.map_map]; rfl
  have k1:=ru_g (hz.sl bS); have k2:=zC (hg.sl aD); rw [← e1] at k1; obtain ⟨ra,rc,rfl,-⟩:=k1.slice; obtain ⟨aa,ac,rfl,-⟩:=k2.slice; exact ⟨qok_g hz hzr hg,ra,rc,aa,ac,rfl,k1,k2⟩
end Go.Proofs.YtffdpoifdahadaaGreatDoor
