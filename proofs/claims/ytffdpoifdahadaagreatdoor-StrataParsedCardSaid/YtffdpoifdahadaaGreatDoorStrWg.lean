/- StrWg: StrWf, StrWg, in one text. -/
import Derived.Test.YtffdpoifdahadaaGreatDoorStrWe
import Derived.Test.YtffdpoifdahadaaGreatDoorAskYh
import Derived.Sort.OwnSorted
import Derived.Lib.RowBridge
import Derived.Shelf.Slices.In.SortNone
import Derived.Test.YtffdpoifdahadaaGreatDoorShelf
import Derived.Test.YtffdpoifdahadaaGreatDoorStrWb
set_option linter.unusedVariables false
set_option linter.unusedSimpArgs false
set_option maxHeartbeats 40000000
set_option maxRecDepth 100000
namespace Go.Proofs.YtffdpoifdahadaaGreatDoor
open Go.RowKit
open Go.Lib (hid compact)
theorem jj {lits:List Lg} (hs:∀ x∈lits,x.args.length<=1048576) (v:List UInt8):∀ m,m<=lits.length->(cP lits m v).length<=m * 1048576
 | 0,_=>by simp [cP]
 | m+1,h=>by
  rw [gQ,zQ,zY]; have h1:=jj hs v m (by omega)
  have h2:((el (aZ lits m)).filter fun u=>decide (u=v)).length<=1048576:=by
   refine zV (List.length_filter_le _ _) ?_; unfold el; rw [zY]; exact zV (List.length_filter_le _ _) (hs _ (h_ (by omega)))
  omega
structure Qsm (q:Qg):Prop where
 bd:QgB q
 nr:q.rules.length<=1048576
theorem RgB.sml {r:Rg} (h:RgB r):Sml r.body:=by
 have ha:∀ x∈r.body,x.args.length<=1048576:=fun x hx=>by have:=(h.2.2 x hx).2.1; omega
 refine ⟨by have:=h.2.1; omega,fun v=>?_,ha,fun x hx t ht=>by have:=(h.2.2 x hx).2.2 t ht; omega⟩; have h1:=jj ha v r.body.length (zM _); have h2:=h.2.1; have h3:r.body.length * 1048576<=100000 * 1048576:=Ak _ h2; omega
theorem nF {w:World} {g cap n:Nat} {os:Array Obj} {ss ts:List (List UInt8)} (h:SO w ss (.slice (some ⟨g,0,none⟩) ss.length cap)) (hl:ts.length=ss.length) :
  SO (Sort.grow (Sort.putRow encStr (Sort.ahead w n) g 0 ts.toArray) os) ts (.slice (some ⟨g,0,none⟩) ts.length cap)/\w.grownBy (Sort.grow (Sort.putRow encStr (Sort.ahead w n) g 0 ts.toArray) os) (some g):=by
 rcases h.2 with ⟨e,-⟩ | ⟨g',cap',cur,e,hb0,hb,h1,h2,h3,h4⟩
 ·cases e
 ·simp only [Value.slice.injEq,Al,Addr.mk.injEq] at e
  obtain ⟨⟨rfl,-,-⟩,-,rfl⟩:=e; have:=ownsRow_sorted (n:=n) (os:=os) (e:=9) hl hb0 hb h1 h2 h3; rw [← hl] at this; exact ⟨this,grownBy_sorted _⟩
theorem xQ {w:World} {l:List (List UInt8)} {g c m:Nat} (h:SO w l (.slice (some ⟨g,0,none⟩) l.length c)) (hm:m<=l.length):SO w (l.take m) (.slice (some ⟨g,0,none⟩) m c):=by
 obtain ⟨hlen,h3⟩:=h
 have e:(l.take m).length=m:=by rw [Ah]; omega
 show w.ownsRow 0 _ 1 _ (l.take m).length ((l.take m).map sv); rw [e]; refine ⟨by rw [zY,e]; omega,?_⟩; rcases h3 with ⟨h,-⟩ | ⟨g',cap,cur,h,-,hg,hn,hx,hs,ht⟩
 ·cases h
 ·simp only [Value.slice.injEq,Al,Addr.mk.injEq] at h
  obtain ⟨⟨rfl,-,-⟩,-,rfl⟩:=h; refine Or.inr ⟨g,c,cur,rfl,zW _,hg,by omega,hx,hs,?_⟩; rw [List.map_take,← ht,List.take_take]
  congr 1
  omega
theorem pv {w:World} {g cap:Nat} {ss:List (List UInt8)} (h:SO w ss (.slice (some ⟨g,0,none⟩) ss.length cap)):Sort.Holds encStr w g 0 ss.toArray/\g < w.heap.size/\ss.length<=cap/\ss.length<=maxLen:=by
 rcases h.2 with ⟨e,-⟩ | ⟨g',cap',cur,e,hb0,hb,h1,h2,h3,h4⟩
 ·cases e
 ·simp only [Value.slice.injEq,Al,Addr.mk.injEq] at e
  obtain ⟨⟨rfl,-,-⟩,-,rfl⟩:=e; exact ⟨holds_of_block hb (by simpa using h4),aL hb,h1,zV h1 h2⟩
theorem xP (ss:List (List UInt8)) (a:Option Addr) (c:Nat) (w:World) (h:SO w ss (.slice a ss.length c)) (hl:ss.length<=1000000000) :
  Calls Tryz.prog 34 #[.slice a ss.length c] w fun e w'=>e=.returned (.tuple #[])/\SO w' (ss.mergeSort fun x y=>decide (x<=y)) (.slice a (ss.mergeSort fun x y=>decide (x<=y)).length c)/\w.grownBy w' (Value.slice a ss.length c).ownBlock:=by
 rcases ss with _ | ⟨s0,ss⟩
 ·refine (Any.slices_Sort_string_none Tryz.lays190 a c w).mono ?_
  rintro e w' ⟨rfl,rfl⟩; exact ⟨rfl,by simpa using h,⟨rfl,rfl,rfl,zM _,fun _ _ _=>rfl⟩⟩
 ·rcases h.2 with ⟨e,h0⟩ | ⟨g,cap,cur,e,-⟩
  ·simp at h0
  ·simp only [Value.slice.injEq] at e
   obtain ⟨rfl,-,rfl⟩:=e; obtain ⟨hH,hg,hc,hm⟩:=pv h; refine (Tryz.slices_Sort_string g 0 c (s0::ss) w hH hg (by omega)).mono ?_; rintro e w' ⟨rfl,n,os,rfl⟩; obtain ⟨h1,h2⟩:=nF (n:=n) (os:=os) h (ts:=(s0::ss).mergeSort fun x y=>decide (x<=y)) (by simp); exact ⟨rfl,h1,h2⟩
theorem sj (ss:List (List UInt8)) (a:Option Addr) (c:Nat) (w:World) (h:SO w ss (.slice a ss.length c)) (hl:ss.length<=1000000000) :
  Calls Tryz.prog 35 #[.slice a ss.length c] w fun e w'=>e=.returned (.slice a (compact ss).length c)/\SO w' (compact ss) (.slice a (compact ss).length c)/\w.grownBy w' (Value.slice a ss.length c).ownBlock:=by
 rcases ss with _ | ⟨s0,ss⟩
 ·refine (Tryz.slices_Compact_string_empty a c w).mono ?_
  rintro e w' ⟨rfl,rfl⟩; exact ⟨rfl,h,⟨rfl,rfl,rfl,zM _,fun _ _ _=>rfl⟩⟩
 ·rcases h.2 with ⟨e,h0⟩ | ⟨g,cap,cur,e,-⟩
  ·simp at h0
  ·simp only [Value.slice.injEq] at e
   obtain ⟨rfl,-,rfl⟩:=e; obtain ⟨hH,hg,hc,hm⟩:=pv h; refine (Tryz.slices_Compact_string g 0 c (s0::ss) w hH (by omega) hc).mono ?_; rintro e w' ⟨rfl,q,rfl⟩; have hle:=Lib.compact_length_le (s0::ss)
   have hlen:(compact (s0::ss)++List.replicate ((s0::ss).length - (compact (s0::ss)).length) []).length=(s0::ss).length:=by
    rw [zQ,List.length_replicate]; omega
   obtain ⟨h1,h2⟩:=nF (n:=q) (os:=#[]) h (ts:=compact (s0::ss)++List.replicate ((s0::ss).length - (compact (s0::ss)).length) []) hlen; rw [Sort.grow_empty] at h1 h2; have h3:=xQ h1 (m:=(compact (s0::ss)).length) (by rw [hlen]; exact hle); rw [List.take_left] at h3; exact ⟨rfl,h3,h2⟩
theorem x9 (a:Option Addr) (n c m d:Nat):(Value.slice a n c).ownBlock=(Value.slice a m d).ownBlock:=by cases a <;> rfl
abbrev x7 (q:Qg) (ra:Option Addr) (rc:Nat) (aa:Option Addr) (ac:Nat):Value:=.agg (aG (.slice ra q.rules.length rc) q.goal.op q.goal.nt q.goal.rel (.slice aa q.goal.args.length ac))
structure QR (q:Qg) (ra:Option Addr) (rc:Nat) (aa:Option Addr) (ac:Nat) (S:aP) (w:World):Prop where
 rl:SlR 7 RgR S w q.rules (.slice ra q.rules.length rc)
 go:SlR 7 TgR S w q.goal.args (.slice aa q.goal.args.length ac)
 lo:∀ k,S k->k < w.heap.size
theorem QR.below {q:Qg} {ra:Option Addr} {rc:Nat} {aa:Option Addr} {ac:Nat} {S:aP} {w w':World} (h:QR q ra rc aa ac S w) (hb:Below w.heap.size w w'):QR q ra rc aa ac S w' :=
 ⟨h.rl.below eR hb,h.go.below bZ hb,fun k hk=>zS (h.lo k hk) hb.size⟩
theorem qG (q:Qg) (ra:Option Addr) (rc:Nat) (aa:Option Addr) (ac:Nat) (S:aP) (w:World) (h:QR q ra rc aa ac S w) (hn:q.rules.length<=1048576) :
  Calls Tryz.prog 17 #[x7 q ra rc aa ac] w fun e w'=>∃ v,e=.returned v/\SO w' (dR q.rules) v/\(∀ k,v.ownBlock=some k->w.heap.size<=k)/\Below w.heap.size w w':=by
 have hb0:Below w.heap.size w (w.alloc (.cells (aG (.slice ra q.rules.length rc) q.goal.op q.goal.nt q.goal.rel (.slice aa q.goal.args.length ac)) 32)):=(zN _ w).alloc (zM _) _; have hbn:=af w (.cells (aG (.slice ra q.rules.length rc) q.goal.op q.goal.nt q.goal.rel (.slice aa q.goal.args.length ac)) 32); have b0:(w.alloc (.cells (aG (.slice ra q.rules.length rc) q.goal.op q.goal.nt q.goal.rel (.slice aa q.goal.args.length ac)) 32)).cell? ⟨w.heap.size,0,none⟩=some (.slice ra q.rules.length rc):=(aj (i:=0) hbn).trans rfl; have hh:=hid h; replace hb0:=hid hb0; clear h hbn
 go_enter Tryz.func17,Tryz.ntmps17
 go_wp2_with fail
 go_loopg [3,9] q.rules.length (fun f v3 v9 wr=>∃ (k:Nat) (a:Option Addr) (c:Nat),v3=.slice a k c/\v9=iv k/\k+f=q.rules.length/\Hid (SO wr ((aI q.rules).take k) (.slice a ((aI q.rules).take k).length c))/\Hid (∀ b,(Value.slice a k c).ownBlock=some b->w.heap.size<=b)/\Hid (Below w.heap.size w wr))
 case atStart=>exact ⟨0,none,0,rfl,rfl,by omega,hid ⟨rfl,Or.inl ⟨rfl,rfl⟩⟩,hid (fun b hb=>(by cases hb)),hb0⟩
 case round =>
  obtain ⟨k,a,c,rfl,rfl,hkf,hS,hge,hB⟩:=hrel; clear hb0 b0
  have hhl:(aI q.rules).length=q.rules.length:=by unfold aI; rw [zY]
  have htk:((aI q.rules).take k).length=k:=by rw [Ah,hhl]; omega
  by_cases hlt:k < q.rules.length
  ·have q1:decide ((k:Int) < (q.rules.length:Int))=true:=zP (by omega)
   have q3:IntKind.i64.wrap ((k:Int)+1)=((k+1:Nat):Int):=by rw [zX]; omega
   obtain ⟨r,hr⟩:∃ r,q.rules[k]? = some r:=⟨_,zR hlt⟩; obtain ⟨g,o,cs,hidx,-,hg,hc,hrt⟩:=(hh.out.rl.below eR hB.out).at (P:=Tryz.prog) (t:=30) (by kernel_rfl) (fun _=>by kernel_rfl) hr; obtain ⟨ha,hcap,ba,bc,rfl,-,-⟩:=hrt; have d0:wr.cell? ⟨g,o+0,none⟩=some (iv r.head.op):=hc 0 _ rfl; have d1:wr.cell? ⟨g,o+1,none⟩=some (.bool r.head.nt):=hc 1 _ rfl; have d2:wr.cell? ⟨g,o+2,none⟩=some (sv r.head.rel):=hc 2 _ rfl; have d3:wr.cell? ⟨g,o+3,none⟩=some (.slice ha r.head.args.length hcap):=hc 3 _ rfl; have d4:wr.cell? ⟨g,o+4,none⟩=some (iv r.agg):=hc 4 _ rfl; have d5:wr.cell? ⟨g,o+5,none⟩=some (iv r.at_):=hc 5 _ rfl; have d6:wr.cell? ⟨g,o+6,none⟩=some (.slice ba r.body.length bc):=hc 6 _ rfl
   rw [Nat.add_zero] at d0; have hb3:Below wr.heap.size wr (wr.alloc (.cells (aM r.head.op r.head.nt r.head.rel (.slice ha r.head.args.length hcap) r.agg r.at_ (.slice ba r.body.length bc)) 27)):=(zN _ wr).alloc (zM _) _
   have hS3:SO (wr.alloc (.cells (aM r.head.op r.head.nt r.head.rel (.slice ha r.head.args.length hcap) r.agg r.at_ (.slice ba r.body.length bc)) 27)) ((aI q.rules).take k) (.slice a ((aI q.rules).take k).length c):=aJ hS.out (fun b hb=>hb3.block b (World.ownsRow.lt hS.out b hb).2) fun _ _=>zW _
   have hS3':(wr.alloc (.cells (aM r.head.op r.head.nt r.head.rel (.slice ha r.head.args.length hcap) r.agg r.at_ (.slice ba r.body.length bc)) 27)).ownsRow 0 9 1 (.slice a k c) k (((aI q.rules).take k).map sv):=by
    have h9:World.ownsRow _ 0 9 1 (.slice a ((aI q.rules).take k).length c) ((aI q.rules).take k).length (((aI q.rules).take k).map sv):=hS3; rw [htk] at h9; exact h9
   obtain ⟨v',w4,hap,hr4,hge4,hF4⟩:=i4 (t:=36) (by kernel_rfl) qg rfl (by decide) hS3' (sv r.head.rel) rfl (by omega)
   have hsz:(wr.alloc (.cells (aM r.head.op r.head.nt r.head.rel (.slice ha r.head.args.length hcap) r.agg r.at_ (.slice ba r.body.length bc)) 27)).heap.size=wr.heap.size+1:=by simp
   rw [hsz] at hap hge4
   have htk2:(aI q.rules).take (k+1)=(aI q.rules).take k++[r.head.rel]:=by
    rw [List.take_add_one];(have:(aI q.rules)[k]? = some r.head.rel:=by unfold aI; rw [Ai,hr]; rfl);rw [this]; rfl
   have hS4:SO w4 ((aI q.rules).take (k+1)) v':=by
    show w4.ownsRow 0 _ 1 v' _ _; rw [htk2,zQ,List.map_append,htk]; exact hr4
   obtain ⟨a',c',hv',-,-⟩:=bp hS4
   have htk3:((aI q.rules).take (k+1)).length=k+1:=by rw [Ah,hhl]; omega
   rw [htk3] at hv'; subst hv'; have hge5:=hid (fun b (hb:(Value.slice a' (k+1) c').ownBlock=some b)=>(hge4 b hb).elim (hge.out b) fun e=>(by have h1:=hB.out.size; omega:w.heap.size<=b)); have hB4:=hid ((hB.out.trans (hb3.mono hB.out.size)).trans (hF4.to_below (zV hB.out.size hb3.size) fun b hb e=>Nat.not_lt.2 (hge.out b e) hb)); replace hS4:=hid (show SO w4 ((aI q.rules).take (k+1)) (.slice a' ((aI q.rules).take (k+1)).length c') from by rw [htk3]; exact hS4); replace hap:=hid hap; replace htk2:=hid htk2; replace htk3:=hid htk3; replace htk:=hid htk; replace hhl:=hid hhl; clear hc hS3 hS3' hr4 hge4 hF4 hb3
   go_wp2_with (at_builtin; refine aU rfl (.tmp 13) (.tmp 17) rfl rfl rfl hap.out ?_)
   go_roundg (q.rules.length - (k+1))
   case measure=>omega
   case rel=>exact ⟨k+1,a',c',rfl,rfl,by omega,hS4,hge5,hB4⟩
  ·have q1:decide ((k:Int) < (q.rules.length:Int))=false:=zO (by omega)
   have hk:k=q.rules.length:=by omega
   have hS1:=hS.out; rw [List.take_of_length_le (by omega)] at hS1
   have hkl:k=(aI q.rules).length:=by omega
   have hso:=hid (xP (aI q.rules) a c wr hS1 (by omega)); have hge1:=hid (fun b (hb:(Value.slice a (aI q.rules).length c).ownBlock=some b)=>hge.out b (by rw [hkl]; exact hb)); rw [← hkl] at hso hge1; replace hkl:=hid hkl; replace hk:=hid hk; replace hhl:=hid hhl; clear htk hS hge
   go_wp2_with fail
   with_reducible refine hso.out.mono ?_
   rintro e w2 ⟨rfl,hS2,hG2⟩
   have hml:((aI q.rules).mergeSort fun x y=>decide (x<=y)).length=(aI q.rules).length:=by simp
   have hco:=hid (sj ((aI q.rules).mergeSort fun x y=>decide (x<=y)) a c w2 hS2 (by have:=hhl.out; omega)); rw [hml,← hkl.out] at hco; have hB2:=hid (hB.out.trans ⟨hG2.os,hG2.tape,hG2.output,hG2.size,fun b hb=>hG2.block b (zS hb hB.out.size) fun e=>Nat.not_lt.2 (hge1.out b e.symm) hb⟩); replace hG2:=hid hG2; replace hS2:=hid hS2; replace hml:=hid hml; clear hS1 hso
   go_wp2_with fail
   with_reducible refine hco.out.mono ?_
   rintro e w3 ⟨rfl,hS3,hG3⟩; have hB3:=hid (hB2.out.trans ⟨hG3.os,hG3.tape,hG3.output,hG3.size,fun b hb=>hG3.block b (zS hb hB2.out.size) fun e=>Nat.not_lt.2 (hge1.out b e.symm) hb⟩); replace hS3:=hid hS3; replace hG3:=hid hG3
   go_wp2_with fail
   go_ret; exact ⟨_,rfl,hS3.out,fun b hb=>hge1.out b ((x9 _ _ _ _ _).trans hb),hB3.out⟩
end Go.Proofs.YtffdpoifdahadaaGreatDoor
namespace Go.Proofs.YtffdpoifdahadaaGreatDoor
open Go.RowKit
open Go.Lib (hid)
def qC (rs:List Rg):Lit->Option Value
 | .string s=>(fu rs s).map fun n:Nat=>iv (n:Int)
 | _=>none
theorem uR (rs:List Rg) (r:Rg) (s:List UInt8):fu (rs++[r]) s=if r.head.rel=s then some r.head.args.length else fu rs s:=by
 unfold fu; rw [List.reverse_append]; show (([r]++rs.reverse).find? _).map _=_; rw [List.singleton_append,List.find?_cons]; by_cases e:r.head.rel=s
 ·simp [e]
 ·simp [e]
theorem qB {mb N:Nat} {rs:List Rg} {w:World} (h:bR Tryz.prog 9 mb N (qC rs) w) (s:List UInt8) (hs:s.length<=1048576) :
  (Instr.lookup 83 (.map (some mb)) (sv s) true).run Tryz.prog w=.ok (.tuple #[iv ((fu rs s).getD 0),.bool (fu rs s).isSome]) w:=by
 have:=h.look_ok (Maps.string_keyed Tryz.underlying9) (t:=83) (e:=3) Tryz.underlying83 (z:=iv 0) (by kernel_rfl) (bH s hs) trivial; rw [this]; show (Result.ok (Value.tuple #[((fu rs s).map fun n:Nat=>iv (n:Int)).getD (iv 0),.bool ((fu rs s).map fun n:Nat=>iv (n:Int)).isSome]) w:Result Value)=_; cases fu rs s <;> rfl
theorem yA {mb N:Nat} {rs:List Rg} {w:World} (h:bR Tryz.prog 9 mb N (qC rs) w) (r:Rg) (hs:r.head.rel.length<=1048576) (hN:N<=1000000000) :
  ∃ w',(Instr.mapUpdate 83 (.map (some mb)) (sv r.head.rel) (iv r.head.args.length)).run Tryz.prog w=.ok () w'/\bR Tryz.prog 9 mb (N+1) (qC (rs++[r])) w'/\w.grownBy w' (some mb):=by
 obtain ⟨w',h1,h2,h3⟩:=h.put (Maps.string_keyed Tryz.underlying9) (t:=83) (e:=3) Tryz.underlying83 (by unfold maxLen; omega) (bH r.head.rel hs) trivial (iv r.head.args.length); refine ⟨w',h1,h2.congr fun kl _=>?_,h3⟩; unfold putF
 cases kl with
 | string x =>
  unfold qC; simp only []; rw [uR]; by_cases e:x=r.head.rel
  ·subst e; simp
  ·rw [if_neg fun h=>e h.symm,if_neg (fun h=>e (by injection h))]
 | _=>simp [qC]
theorem l7 (x:Lg) (la:Option Addr) (lc:Nat) (D mb N:Nat) (rs:List Rg) (w:World) (hD:w.cell? ⟨D,0,none⟩=some (.map (some mb))) (hm:bR Tryz.prog 9 mb N (qC rs) w) (hx:x.rel.length<=1048576) (hl:x.args.length<=1048576) :
  Calls Tryz.prog 47 #[.agg (ap x.op x.nt x.rel (.slice la x.args.length lc)),.pointer (some ⟨D,0,none⟩)] w fun e w'=>e=.returned (.bool (bI arF rs x))/\Below w.heap.size w w':=by
 obtain ⟨op,nt,rel,args⟩:=x; replace hx:rel.length<=1048576:=hx; replace hl:args.length<=1048576:=hl; show Calls Tryz.prog 47 #[.agg (ap op nt rel (.slice la args.length lc)),.pointer (some ⟨D,0,none⟩)] w _
 have hR:bI arF rs ⟨op,nt,rel,args⟩=if op≠0 then true else if 0 < arF rel then decide (args.length=arF rel) else decide (fu rs rel=some args.length):=rfl
 rw [hR]; have hb1:Below w.heap.size w (w.alloc (.cells (ap op nt rel (.slice la args.length lc)) 24)):=(zN _ w).alloc (zM _) _; have hk1:=af w (.cells (ap op nt rel (.slice la args.length lc)) 24); have hDl:=Aj w _ hD; have hDne:¬ D=w.heap.size:=Nat.ne_of_lt hDl; have har:=hid (i9 rel hx (w.alloc (.cells (ap op nt rel (.slice la args.length lc)) 24))); by_cases ho:op=0
 ·subst ho
  rw [if_neg (by simp)]; obtain ⟨x,hx2⟩:∃ x,x=arF rel:=⟨_,rfl⟩
  have hxb:x<=4:=by
   rw [hx2]; unfold arF; generalize hf:List.find? _ mW=o
   cases o with
   | none=>exact zW _
   | some p =>
    (have h4:∀ p∈mW,p.2<=4:=by decide);exact h4 p (List.mem_of_find?_eq_some hf)
  rw [← hx2] at har ⊢
  obtain ⟨b,hb⟩:∃ b,b=if 0 < x then decide (args.length=x) else decide (fu rs rel=some args.length):=⟨_,rfl⟩
  rw [← hb]; replace hb:=hid hb; have hbA:=hid hb1; have hkA:=hid hk1; have hmA:=hid hm; have hDA:=hid hD; replace hx2:=hid hx2; clear hb1 hk1 hm hD hR
  go_enter Tryz.func47,Tryz.ntmps47
  go_wp2_with fail
  with_reducible refine har.out.mono ?_
  rintro e w2 ⟨rfl,hb2⟩; have hB2:=hid (hbA.out.trans (hb2.mono (by simp))); have hk2:=an hb2 hkA.out (ae hkA.out); obtain ⟨c0,c1,c2,c3,-⟩:=aK hk2; have hD2:w2.cell? ⟨D,0,none⟩=some (.map (some mb)):=(hB2.out.cell (p:=⟨D,0,none⟩) hDl).trans hDA.out; have hm2:=hmA.out.below hB2.out hmA.out.lt; have hlk:=qB hm2 rel hx; clear har hb2 hk2; by_cases h0:0 < x
  ·have q1:decide ((0:Int) < (x:Int))=true:=zP (by omega)
   have q2:((args.length:Int) == (x:Int))=decide (args.length=x):=by
    by_cases e:args.length=x
    ·simp [e]
    ·simp only [zO e]; simp; omega
   replace h0:=hid h0
   go_wp2_with fail
   go_ret; refine ⟨?_,hB2.out⟩; rw [hb.out,if_pos h0.out]; simp
  ·have hb2:=hid (show b=decide (fu rs rel=some args.length) from by rw [hb.out,if_neg h0])
   have hx0:x=0:=by omega
   subst hx0; rcases hao:fu rs rel with _ | n
   ·rw [hao] at hlk
    replace hao:=hid hao;go_wp2_with fail;go_ret; exact ⟨by rw [hb2.out,hao.out]; simp,hB2.out⟩
   ·rw [hao] at hlk
    replace hao:=hid hao;go_wp2_with fail;go_ret; refine ⟨?_,hB2.out⟩
    have:decide (some n=some args.length)=decide (args.length=n):=by
     by_cases e:args.length=n
     ·simp [e]
     ·simp [e,Ne.symm e]
    rw [hb2.out,hao.out,this]; simp; rw [Bool.eq_iff_iff]; simp; omega
 ·rw [if_pos ho]
  have hbA:=hid hb1
  have b0:(op != 0)=true:=by simpa using ho
  clear har hb1 hk1 hm hD hR
  go_enter Tryz.func47,Tryz.ntmps47
  go_wp2_with fail
  go_ret; exact ⟨rfl,hbA.out⟩
structure ND (q:Qg) (ra:Option Addr) (rc:Nat) (aa:Option Addr) (ac:Nat) (w:World) (mb D k:Nat) (wr:World):Prop where
 box:wr.heap[w.heap.size]? = some (.cells (aG (.slice ra q.rules.length rc) q.goal.op q.goal.nt q.goal.rel (.slice aa q.goal.args.length ac)) 32 (0,0))
 cell:wr.heap[D]? = some (.cells #[.map (some mb)] 83 (0,0))
 map:bR Tryz.prog 9 mb k (qC (q.rules.take k)) wr
 ge:w.heap.size<=mb
 bel:Below w.heap.size w wr
theorem ND.below {q:Qg} {ra:Option Addr} {rc:Nat} {aa:Option Addr} {ac:Nat} {w wr wr':World} {mb D k:Nat} (h:ND q ra rc aa ac w mb D k wr) (hb:Below wr.heap.size wr wr'):ND q ra rc aa ac w mb D k wr' :=
 ⟨an hb h.box (ae h.box),an hb h.cell (ae h.cell),h.map.below hb h.map.lt,h.ge,h.bel.trans (hb.mono h.bel.size)⟩
theorem ND.put {q:Qg} {ra:Option Addr} {rc:Nat} {aa:Option Addr} {ac:Nat} {w wr:World} {mb D k:Nat} (h:ND q ra rc aa ac w mb D k wr) {r:Rg} (hr:q.rules[k]? = some r) (hl:r.head.rel.length<=1048576) (hk:k<=1048576) :
  ∃ w',(Instr.mapUpdate 83 (.map (some mb)) (sv r.head.rel) (iv r.head.args.length)).run Tryz.prog wr=.ok () w'/\ND q ra rc aa ac w mb D (k+1) w':=by
 obtain ⟨w',h1,h2,h3⟩:=yA h.map r hl (by omega); obtain ⟨es,cl,hm⟩:=h.map.obj
 have hne:∀ {b:Nat} {c:Array Value} {t:TypeId} {f:Nat × Nat},wr.heap[b]? = some (.cells c t f)->w'.heap[b]? = some (.cells c t f):=fun hb=>(h3.block _ (aL hb) (fun e=>by injection e with e; rw [e,hm] at hb; cases hb)).trans hb
 exact ⟨w',h1,hne h.box,hne h.cell,by rw [List.take_add_one,hr]; exact h2,h.ge,h.bel.trans (bj (W:=w) h3 h.ge h.bel.size)⟩
theorem sG {α:Type} {sz:Nat} {R:Rel α} {S:aP} {w a b:World} {l:List α} {v:Value} (hR:dA sz R) (h:SlR sz R S a l v) (lo:∀ k,S k->k < w.heap.size) (ha:Below w.heap.size w a) (hb:Below w.heap.size w b):SlR sz R S b l v :=
 h.move hR fun k hk hs=>⟨hs,(hb.block k (lo k hs)).trans (ha.block k (lo k hs)).symm⟩
theorem fW {g o:Nat} {w:World} {op:Int} {nt:Bool} {rel:List UInt8} {hv bv:Value} {agg at_:Int} (h:∀ j u,(aM op nt rel hv agg at_ bv).toList[j]? = some u->w.cell? ⟨g,o+j,none⟩=some u) :
  w.cell? ⟨g,o,none⟩=some (iv op)/\w.cell? ⟨g,o+1,none⟩=some (.bool nt)/\w.cell? ⟨g,o+2,none⟩=some (sv rel)/\w.cell? ⟨g,o+3,none⟩=some hv/\w.cell? ⟨g,o+4,none⟩=some (iv agg)/\w.cell? ⟨g,o+5,none⟩=some (iv at_)/\w.cell? ⟨g,o+6,none⟩=some bv :=
 ⟨h 0 _ rfl,h 1 _ rfl,h 2 _ rfl,h 3 _ rfl,h 4 _ rfl,h 5 _ rfl,h 6 _ rfl⟩
theorem uj (q:Qg) (ra:Option Addr) (rc:Nat) (aa:Option Addr) (ac:Nat) (S:aP) (w:World) (h:QR q ra rc aa ac S w) (hq:Qsm q) :
  Calls Tryz.prog 32 #[x7 q ra rc aa ac] w fun e w'=>e=.returned (.bool (fA arF q))/\Below w.heap.size w w':=by
 obtain ⟨R,hR⟩:∃ R,R=fA arF q:=⟨_,rfl⟩; rw [← hR]; replace hR:=hid hR; have hb0:Below w.heap.size w (w.alloc (.cells (aG (.slice ra q.rules.length rc) q.goal.op q.goal.nt q.goal.rel (.slice aa q.goal.args.length ac)) 32)):=(zN _ w).alloc (zM _) _; have hbn:=af w (.cells (aG (.slice ra q.rules.length rc) q.goal.op q.goal.nt q.goal.rel (.slice aa q.goal.args.length ac)) 32); obtain ⟨w0,hw0⟩:∃ w0,w0=w.alloc (.cells (aG (.slice ra q.rules.length rc) q.goal.op q.goal.nt q.goal.rel (.slice aa q.goal.args.length ac)) 32):=⟨_,rfl⟩; rw [← hw0] at hb0 hbn; have hh:=hid h; have hmm:=@run_makeMap Tryz.prog; replace hw0:=hid hw0
 go_enter Tryz.func32,Tryz.ntmps32
 go_upto_region 1 with (fail)
 rw [← hw0.out]
 go_upto_region 2 with (fail)
 obtain ⟨mb,hmb⟩:∃ mb,mb=w0.heap.size:=⟨_,rfl⟩; obtain ⟨D,hD⟩:∃ D,D=w0.heap.size+1:=⟨_,rfl⟩
 have hN0:ND q ra rc aa ac w mb D 0 ((w0.alloc (.map #[] 0)).alloc (.cells #[.map (some mb)] 83)):=by
  have s1:(w0.alloc (.map #[] 0)).heap.size=D:=by rw [hD]; simp
  have bb:Below w0.heap.size w0 ((w0.alloc (.map #[] 0)).alloc (.cells #[.map (some mb)] 83)):=((zN _ w0).alloc (zM _) _).alloc (by simp) _; refine ⟨an bb hbn (ae hbn),?_,?_,by rw [hmb]; exact hb0.size,hb0.trans (bb.mono hb0.size)⟩
  ·rw [← s1]; exact af _ _
  ·rw [hmb]
   exact ((bR.made w0).alloc _).congr fun kl _=>by cases kl <;> simp [qC,fu]
 rw [← hD,← hmb]; obtain ⟨w1,hw1⟩:∃ w1,w1=(w0.alloc (.map #[] 0)).alloc (.cells #[.map (some mb)] 83):=⟨_,rfl⟩; rw [← hw1] at hN0 ⊢; have b0:w1.cell? ⟨w.heap.size,0,none⟩=some (.slice ra q.rules.length rc):=(aj hN0.box).trans rfl; have hnr:=hq.nr; replace hN0:=hid hN0; replace hw1:=hid hw1; replace hmb:=hid hmb; replace hD:=hid hD; replace hb0:=hid hb0; replace hbn:=hid hbn; clear h hmm
 go_wp2_with fail
 go_loopg [19] q.rules.length (fun f v19 wr=>∃ (k:Nat),v19=iv k/\k+f=q.rules.length/\Hid (ND q ra rc aa ac w mb D k wr)/\Hid (R=(gq arF (q.rules.take k) (q.rules.drop k) && (q.rules.all fun r=>r.body.all (bI arF q.rules)) && bI arF q.rules q.goal)))
 case atStart=>exact ⟨0,rfl,by omega,hN0,hid (by rw [hR.out]; rfl)⟩
 case round =>
  obtain ⟨k,rfl,hkf,hN,hRk⟩:=hrel; clear hN0 b0; by_cases hlt:k < q.rules.length
  ·have q1:decide ((k:Int) < (q.rules.length:Int))=true:=zP (by omega)
   have q3:IntKind.i64.wrap ((k:Int)+1)=((k+1:Nat):Int):=by rw [zX]; omega
   obtain ⟨r,hr⟩:∃ r,q.rules[k]? = some r:=⟨_,zR hlt⟩; have hrB:=hq.bd.1 r (zU hr)
   have hrl:r.head.rel.length<=1048576:=by have:=hrB.1.1; omega
   have hal:r.head.args.length<=1048576:=by have:=hrB.1.2.1; omega
   obtain ⟨g,o,cs,hidx,-,hg,hc,hrt⟩:=(hh.out.rl.below eR hN.out.bel).at (P:=Tryz.prog) (t:=30) (by kernel_rfl) (fun _=>by kernel_rfl) hr; obtain ⟨ha,hcap,ba,bc,rfl,-,-⟩:=hrt; obtain ⟨d0,d1,d2,d3,d4,d5,d6⟩:=fW hc; have hb3:Below wr.heap.size wr (wr.alloc (.cells (aM r.head.op r.head.nt r.head.rel (.slice ha r.head.args.length hcap) r.agg r.at_ (.slice ba r.body.length bc)) 27)):=(zN _ wr).alloc (zM _) _; have hk3:=af wr (.cells (aM r.head.op r.head.nt r.head.rel (.slice ha r.head.args.length hcap) r.agg r.at_ (.slice ba r.body.length bc)) 27); obtain ⟨W3,hW3⟩:∃ W3,W3=wr.alloc (.cells (aM r.head.op r.head.nt r.head.rel (.slice ha r.head.args.length hcap) r.agg r.at_ (.slice ba r.body.length bc)) 27):=⟨_,rfl⟩
   rw [← hW3] at hb3 hk3; have hN3:=hid (hN.out.below hb3); obtain ⟨v0,v1,v2,v3,v4,v5,v6,-⟩:=eg hk3
   have hdr:q.rules.drop k=r::q.rules.drop (k+1):=by rw [Ac hlt]; congr 1; rw [zR hlt] at hr; injection hr
   have htk:q.rules.take (k+1)=q.rules.take k++[r]:=by rw [List.take_add_one,hr]; rfl
   have hRk2:=hRk.out; rw [hdr] at hRk2
   have hRk3:R=((if eQ arF (q.rules.take k) r=true then false else gq arF (q.rules.take (k+1)) (q.rules.drop (k+1))) && (q.rules.all fun r=>r.body.all (bI arF q.rules)) && bI arF q.rules q.goal):=by rw [htk]; exact hRk2
   replace hW3:=hid hW3; replace hk3:=hid hk3; replace hdr:=hid hdr; replace htk:=hid htk; replace hRk3:=hid hRk3; clear hc hb3 hRk2
   go_upto_region 5 with (fail)
   rw [← hW3.out]; clear d0 d1 d2 d3 d4 d5 d6
   go_wp2_with fail
   go_quiet (fail)
   obtain ⟨W4,hW4⟩:∃ W4,W4=W3.drewN nq:=⟨_,rfl⟩; rw [← hW4]; have hN4:=hid (show ND q ra rc aa ac w mb D k W4 from by rw [hW4]; exact hN3.out.below (bG (zN _ W3) nq)); have c3:W4.cell? ⟨D,0,none⟩=some (.map (some mb)):=(aj hN4.out.cell).trans rfl; have hlk:=qB hN4.out.map r.head.rel hrl; replace hW4:=hid hW4; clear v0 v1 v2 v3 v4 v5 v6; rcases hao:fu (q.rules.take k) r.head.rel with _ | m
   ·rw [hao] at hlk
    replace hao:=hid hao; have har:=hid (i9 r.head.rel hrl W4); obtain ⟨x,hx⟩:∃ x,x=arF r.head.rel:=⟨_,rfl⟩; rw [← hx] at har; replace hx:=hid hx;go_wp2_with fail;(with_reducible refine har.out.mono ?_);rintro e w5 ⟨rfl,hb5⟩; have hN5:=hN4.out.below hb5; obtain ⟨w6,hput,hN6⟩:=hN5.put hr hrl (by omega); have hN5':=hid hN5; have c3':w5.cell? ⟨D,0,none⟩=some (.map (some mb)):=(aj hN5.cell).trans rfl; replace hN6:=hid hN6; clear hb5 hN5 c3 hlk har; by_cases hx0:0 < x
    ·have qx:decide ((0:Int) < (x:Int))=true:=zP (by omega)
     have hF:=hid (show R=false from by rw [hRk3.out,if_pos (by unfold eQ; rw [hao.out,← hx.out]; simp [hx0])]; rfl); replace hx0:=hid hx0;go_wp2_with fail;go_ret; exact ⟨by rw [hF.out]; rfl,hN5'.out.bel⟩
    ·have qx:decide ((0:Int) < (x:Int))=false:=zO (by omega)
     have hRn:=hid (show R=(gq arF (q.rules.take (k+1)) (q.rules.drop (k+1)) && (q.rules.all fun r=>r.body.all (bI arF q.rules)) && bI arF q.rules q.goal) from by rw [hRk3.out,if_neg (by unfold eQ; rw [hao.out,← hx.out]; simp [hx0])]); replace hx0:=hid hx0;go_wp2_with fail
     go_roundg (q.rules.length - (k+1))
     case measure=>omega
     case rel=>exact ⟨k+1,rfl,by omega,hN6,hRn⟩
   ·by_cases hml:m=r.head.args.length
    ·subst hml
     rw [hao] at hlk; replace hao:=hid hao; have har:=hid (i9 r.head.rel hrl W4); obtain ⟨x,hx⟩:∃ x,x=arF r.head.rel:=⟨_,rfl⟩; rw [← hx] at har; replace hx:=hid hx;go_wp2_with fail;(with_reducible refine har.out.mono ?_);rintro e w5 ⟨rfl,hb5⟩; have hN5:=hN4.out.below hb5; obtain ⟨w6,hput,hN6⟩:=hN5.put hr hrl (by omega); have hN5':=hid hN5; have c3':w5.cell? ⟨D,0,none⟩=some (.map (some mb)):=(aj hN5.cell).trans rfl; replace hN6:=hid hN6; clear hb5 hN5 c3 hlk har; by_cases hx0:0 < x
     ·have qx:decide ((0:Int) < (x:Int))=true:=zP (by omega)
      have hF:=hid (show R=false from by rw [hRk3.out,if_pos (by unfold eQ; rw [hao.out,← hx.out]; simp [hx0])]; rfl); replace hx0:=hid hx0;go_wp2_with fail;go_ret; exact ⟨by rw [hF.out]; rfl,hN5'.out.bel⟩
     ·have qx:decide ((0:Int) < (x:Int))=false:=zO (by omega)
      have hRn:=hid (show R=(gq arF (q.rules.take (k+1)) (q.rules.drop (k+1)) && (q.rules.all fun r=>r.body.all (bI arF q.rules)) && bI arF q.rules q.goal) from by rw [hRk3.out,if_neg (by unfold eQ; rw [hao.out,← hx.out]; simp [hx0])]); replace hx0:=hid hx0;go_wp2_with fail
      go_roundg (q.rules.length - (k+1))
      case measure=>omega
      case rel=>exact ⟨k+1,rfl,by omega,hN6,hRn⟩
    ·rw [hao] at hlk
     (have qm:((m:Int) != (r.head.args.length:Int))=true:=by simp; omega);(have qm2:¬ (m:Int)=(r.head.args.length:Int):=by omega);have hF:=hid (show R=false from by rw [hRk3.out,if_pos (by unfold eQ; rw [hao]; simp [hml])]; rfl); replace hao:=hid hao; replace hml:=hid hml;go_wp2_with fail;go_ret; exact ⟨by rw [hF.out]; rfl,hN4.out.bel⟩
  ·have q1:decide ((k:Int) < (q.rules.length:Int))=false:=zO (by omega)
   have hRk4:=hid (show R=((q.rules.all fun r=>r.body.all (bI arF q.rules)) && bI arF q.rules q.goal) from by
    rw [hRk.out,List.drop_of_length_le (by omega)]; simp [gq])
   have hN':=hN.out
   have hmf:∀ (fn:Fn) (first cap:Array Value) (w:World),(Instr.makeFunc fn first cap).run Tryz.prog w=.ok (.func fn first cap) w:=fun _ _ _ _=>rfl
   have b0:wr.cell? ⟨w.heap.size,0,none⟩=some (.slice ra q.rules.length rc):=(aj hN'.box).trans rfl; have hmp:q.rules.take k=q.rules:=List.take_of_length_le (by omega); have hM2:=hN'.map; rw [hmp] at hM2; have hk:=hid (show k=q.rules.length by omega); replace hM2:=hid hM2; replace hmp:=hid hmp; clear hN'
   go_wp2_with fail
   go_loopg [55] q.rules.length (fun f v55 wr2=>∃ (j:Nat),v55=iv j/\j+f=q.rules.length/\Hid (ND q ra rc aa ac w mb D k wr2)/\Hid (R=(((q.rules.drop j).all fun r=>r.body.all (bI arF q.rules)) && bI arF q.rules q.goal)))
   case atStart=>exact ⟨0,rfl,by omega,hN,hRk4⟩
   case round =>
    obtain ⟨j,rfl,hjf,hN2,hR2⟩:=hrel; clear b0 hN hM2 hRk hRk4; by_cases hlt2:j < q.rules.length
    ·have q2:decide ((j:Int) < (q.rules.length:Int))=true:=zP (by omega)
     (have q4:IntKind.i64.wrap ((j:Int)+1)=((j+1:Nat):Int):=by rw [zX]; omega);obtain ⟨r,hr⟩:∃ r,q.rules[j]? = some r:=⟨_,zR hlt2⟩; have hrB:=hq.bd.1 r (zU hr); obtain ⟨g,o,cs,hidx,-,hg,hc,hrt⟩:=(hh.out.rl.below eR hN2.out.bel).at (P:=Tryz.prog) (t:=30) (by kernel_rfl) (fun _=>by kernel_rfl) hr; obtain ⟨ha,hcap,ba,bc,rfl,-,hSb⟩:=hrt; obtain ⟨d0,d1,d2,d3,d4,d5,d6⟩:=fW hc; have hb3:Below wr.heap.size wr (wr.alloc (.cells (aM r.head.op r.head.nt r.head.rel (.slice ha r.head.args.length hcap) r.agg r.at_ (.slice ba r.body.length bc)) 27)):=(zN _ wr).alloc (zM _) _; have hN3:=hid (hN2.out.below hb3); have hBw:=hid hN2.out.bel; have hbl:=hrB.2.1;(have hdr:q.rules.drop j=r::q.rules.drop (j+1):=by rw [Ac hlt2]; congr 1; rw [zR hlt2] at hr; injection hr);have hR3:=hid (show R=((r.body.drop 0).all (bI arF q.rules) && (q.rules.drop (j+1)).all (fun r=>r.body.all (bI arF q.rules)) && bI arF q.rules q.goal) from by rw [hR2.out,hdr]; rfl); replace hSb:=hid hSb; replace hdr:=hid hdr; clear hc hb3 hR2;go_wp2_with fail
     go_loopg [62] r.body.length (fun f v62 wr3=>∃ (i:Nat),v62=iv i/\i+f=r.body.length/\Hid (ND q ra rc aa ac w mb D k wr3)/\Hid (R=((r.body.drop i).all (bI arF q.rules) && (q.rules.drop (j+1)).all (fun r=>r.body.all (bI arF q.rules)) && bI arF q.rules q.goal)))
     case atStart=>exact ⟨0,rfl,by omega,hN3,hR3⟩
     case round =>
      obtain ⟨i,rfl,hif,hN4,hR4⟩:=hrel; clear hN3 hR3 d0 d1 d2 d3 d4 d5 d6 hidx hg hN2; by_cases hlt3:i < r.body.length
      ·have q5:decide ((i:Int) < (r.body.length:Int))=true:=zP (by omega)
       (have q6:IntKind.i64.wrap ((i:Int)+1)=((i+1:Nat):Int):=by rw [zX]; omega);obtain ⟨x,hx⟩:∃ x,r.body[i]? = some x:=⟨_,zR hlt3⟩; have hxB:=hrB.2.2 x (zU hx); obtain ⟨g,o,cs,hidx,-,hg,hc,hrt⟩:=(sG eA hSb.out hh.out.lo hBw.out hN4.out.bel).at (P:=Tryz.prog) (t:=25) (by kernel_rfl) (fun _=>by kernel_rfl) hx; obtain ⟨xa,xc,rfl,-⟩:=hrt; have d0:wr.cell? ⟨g,o+0,none⟩=some (iv x.op):=hc 0 _ rfl; have d1:wr.cell? ⟨g,o+1,none⟩=some (.bool x.nt):=hc 1 _ rfl; have d2:wr.cell? ⟨g,o+2,none⟩=some (sv x.rel):=hc 2 _ rfl; have d3:wr.cell? ⟨g,o+3,none⟩=some (.slice xa x.args.length xc):=hc 3 _ rfl; rw [Nat.add_zero] at d0; have hb5:Below wr.heap.size wr (wr.alloc (.cells (ap x.op x.nt x.rel (.slice xa x.args.length xc)) 24)):=(zN _ wr).alloc (zM _) _;have hN5:=hN4.out.below hb5; have hM5:=hN5.map; rw [hmp.out] at hM5; have hri:=hid (l7 x xa xc D mb k q.rules _ ((aj hN5.cell).trans rfl) hM5 (by have:=hxB.1; omega) (by have:=hxB.2.1; omega)); obtain ⟨b,hb⟩:∃ b,b=bI arF q.rules x:=⟨_,rfl⟩; rw [← hb] at hri;(have hdr2:r.body.drop i=x::r.body.drop (i+1):=by rw [Ac hlt3]; congr 1; rw [zR hlt3] at hx; injection hx);have hR5:=hid (show R=(b && (r.body.drop (i+1)).all (bI arF q.rules) && (q.rules.drop (j+1)).all (fun r=>r.body.all (bI arF q.rules)) && bI arF q.rules q.goal) from by rw [hR4.out,hdr2,hb]; rfl); replace hN5:=hid hN5; replace hb:=hid hb; replace hdr2:=hid hdr2; clear hc hM5 hb5;go_wp2_with fail;(with_reducible refine hri.out.mono ?_);rintro e w6 ⟨rfl,hb6⟩; have hN6:=hid (hN5.out.below hb6); clear hb6 d0 d1 d2 d3 hri
       cases b with
       | true =>
        have hR6:=hid (show R=((r.body.drop (i+1)).all (bI arF q.rules) && (q.rules.drop (j+1)).all (fun r=>r.body.all (bI arF q.rules)) && bI arF q.rules q.goal) from by rw [hR5.out]; rfl);go_wp2_with fail
        go_roundg (r.body.length - (i+1))
        case measure=>omega
        case rel=>exact ⟨i+1,rfl,by omega,hN6,hR6⟩
       | false =>
        have hF:=hid (show R=false from by rw [hR5.out]; rfl);go_wp2_with fail;go_ret; exact ⟨by rw [hF.out]; rfl,hN6.out.bel⟩
      ·have q5:decide ((i:Int) < (r.body.length:Int))=false:=zO (by omega)
       have hR6:=hid (show R=(((q.rules.drop (j+1)).all fun r=>r.body.all (bI arF q.rules)) && bI arF q.rules q.goal) from by rw [hR4.out,List.drop_of_length_le (by omega)]; rfl);go_wp2_with fail
       go_roundg (q.rules.length - (j+1))
       case measure=>omega
       case rel=>exact ⟨j+1,rfl,by omega,hN4,hR6⟩
    ·have q2:decide ((j:Int) < (q.rules.length:Int))=false:=zO (by omega)
     have hN3:=hN2.out; have e1:wr.cell? ⟨w.heap.size,1,none⟩=some (iv q.goal.op):=(aj hN3.box).trans rfl; have e2:wr.cell? ⟨w.heap.size,2,none⟩=some (.bool q.goal.nt):=(aj hN3.box).trans rfl; have e3:wr.cell? ⟨w.heap.size,3,none⟩=some (sv q.goal.rel):=(aj hN3.box).trans rfl; have e4:wr.cell? ⟨w.heap.size,4,none⟩=some (.slice aa q.goal.args.length ac):=(aj hN3.box).trans rfl; have hM5:=hN3.map; rw [hmp.out] at hM5; have hgB:=hq.bd.2; have hri:=hid (l7 q.goal aa ac D mb k q.rules _ ((aj hN3.cell).trans rfl) hM5 (by have:=hgB.1; omega) (by have:=hgB.2.1; omega)); have hR6:=hid (show R=bI arF q.rules q.goal from by rw [hR2.out,List.drop_of_length_le (by omega)]; rfl); replace hN3:=hid hN3; clear hM5;go_wp2_with fail;(with_reducible refine hri.out.mono ?_);rintro e w6 ⟨rfl,hb6⟩; have hN6:=hid (hN3.out.below hb6); clear hb6 hri;go_wp2_with fail;go_ret; exact ⟨by rw [hR6.out]; rfl,hN6.out.bel⟩
end Go.Proofs.YtffdpoifdahadaaGreatDoor
