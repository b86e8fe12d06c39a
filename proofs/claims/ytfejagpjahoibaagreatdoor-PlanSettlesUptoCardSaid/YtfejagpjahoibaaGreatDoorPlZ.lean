/- PlZ: AppN, PlZ, in one text. -/
import Derived.Test.YtfejagpjahoibaaGreatDoorDel
import Derived.Test.YtfejagpjahoibaaGreatDoorPlY
set_option linter.unusedVariables false
namespace Go.Proofs.YtfejagpjahoibaaGreatDoor
open Go.RowKit
/-- several elements behind an owned row: out = append(out, xs...) -/
theorem OwnR.appendN {α:Type} {P:Program} {E t ty:TypeId} {sz bytes:Nat} {R:Rel α} {i:TypeInfo} {z:Value} (hR:Good sz R) (ht:P.underlying t=some (.slice E)) (hi:P.info? E=some i) (hz:i.zero=some z) (hsize:i.size=sz) (hby:i.bytes=bytes) (hzs:z.cells.size=sz) (hsz:0 < sz)
  {S:Foot} {w:World} {l m:List α} {v:Value} (h:OwnR E sz R S w l v) {B:Nat} {vs:Value} {news:List Value} (hr:Row B w sz vs m.length news) (hone:∀ u∈news,u.oneCell'=true)
  (hx:∀ n y,m[n]? = some y→∃ cs,(∀ j u,cs[j]? = some u→news[n * sz+j]? = some u)∧R (fun k=>S k∧v.ownBlock≠some k) w y cs) (h63:l.length+m.length≤maxLen) (hbytes:(l.length+m.length) * bytes≤140737488355328) (hS:∀ k,w.heap.size≤k→S k) :
  ∃ v' w',AppRun P t t ty v vs v' w w'∧OwnR E sz R S w' (l++m) v'∧Fr S w w':=by
 obtain ⟨xs,h1,h2,h3⟩:=h; obtain ⟨v',w',hrun,hown,hg,hv⟩:=append_row w 0 t ty E i z sz bytes ht hi hz hsize hby hzs hsz v l.length xs h1 B vs m.length news hr hone h63 hbytes (Nat.zero_le _)
 have hkeep:∀ {y:α} {ds:List Value},R (fun k=>S k∧v.ownBlock≠some k) w y ds→R (fun k=>S k∧v'.ownBlock≠some k) w' y ds:=by
  intro y ds hy
  refine hR.move hy fun k hk hu=>⟨⟨hu.1,?_⟩,hg.block k hk (fun e=>hu.2 e.symm)⟩
  rcases hv with hv | hv
  ·rw [hv]; exact hu.2
  ·rw [hv]; intro e; injection e with e; omega
 refine ⟨v',w',⟨hrun⟩,⟨xs++news,by rw [List.length_append]; exact hown,fun k hk=>?_,fun i y hy=>?_⟩,⟨hg.os,hg.tape,hg.output,hg.size,fun k hk hs=>hg.block k hk (fun e=>hs (h2 k e.symm))⟩⟩
 ·rcases hv with hv | hv
  ·exact h2 k (hv ▸ hk)
  ·rw [hv] at hk; injection hk with hk; subst hk; exact hS _ (Nat.le_refl _)
 ·by_cases hil:i < l.length
  ·rw [List.getElem?_append_left hil] at hy
   obtain ⟨ds,h4,h5⟩:=h3 i y hy; refine ⟨ds,fun j u hu=>?_,hkeep h5⟩; have:=h4 j u hu; rw [List.getElem?_append_left (List.getElem?_eq_some_iff.1 this).1]; exact this
  ·rw [List.getElem?_append_right (by omega)] at hy
   obtain ⟨ds,h4,h5⟩:=hx _ y hy; refine ⟨ds,fun j u hu=>?_,hkeep h5⟩; have hxl:=h1.1
   have hm:i * sz=l.length * sz+(i - l.length) * sz:=by rw [← Nat.add_mul]; congr 1; omega
   rw [List.getElem?_append_right (by omega),show i * sz+j - xs.length=(i - l.length) * sz+j by omega]; exact h4 j u hu
end Go.Proofs.YtfejagpjahoibaaGreatDoor
set_option linter.unusedSimpArgs false
namespace Go.Proofs.YtfejagpjahoibaaGreatDoor
open Go.RowKit
open Go.Lib (hid)
def cmdF (turn kind:Int) (u d:Out):Cmd:=⟨keyF turn kind u.key d.key,kind,u.key,d.key,if kind=2∨kind=3 then u.name else d.name,if kind=2∨kind=3 then [] else d.args⟩
abbrev cmd6 (k:List UInt8) (n:Int) (o e nm:List UInt8) (v:Value):Array Value:=#[sv k,iv n,sv o,sv e,sv nm,v]
theorem cmd_cells {w:World} {R:Nat} {k:List UInt8} {n:Int} {o e nm:List UInt8} {v:Value} (h:w.heap[R]? = some (.cells (cmd6 k n o e nm v) 41 (0,0))):w.cell? ⟨R,0,none⟩=some (sv k)∧w.cell? ⟨R,1,none⟩=some (iv n)∧w.cell? ⟨R,2,none⟩=some (sv o)∧w.cell? ⟨R,3,none⟩=some (sv e)∧w.cell? ⟨R,4,none⟩=some (sv nm)∧w.cell? ⟨R,5,none⟩=some v∧∀ i,w.frozen? ⟨R,i,none⟩=false :=
 ⟨(cell_of h).trans rfl,(cell_of h).trans rfl,(cell_of h).trans rfl,(cell_of h).trans rfl,(cell_of h).trans rfl,(cell_of h).trans rfl,fun i=>free_of h⟩
abbrev setCmd (w:World) (R:Nat) (k:List UInt8) (n:Int) (o e nm:List UInt8) (v:Value):World:=(((((w.setCell ⟨R,0,none⟩ (sv k)).setCell ⟨R,1,none⟩ (iv n)).setCell ⟨R,2,none⟩ (sv o)).setCell ⟨R,3,none⟩ (sv e)).setCell ⟨R,4,none⟩ (sv nm)).setCell ⟨R,5,none⟩ v
theorem cmd_set {w:World} {R:Nat} {a0 a1 a2 a3 a4 a5:Value} (h:w.heap[R]? = some (.cells #[a0,a1,a2,a3,a4,a5] 41 (0,0))) (k:List UInt8) (n:Int) (o e nm:List UInt8) (v:Value):(setCmd w R k n o e nm v).heap[R]? = some (.cells (cmd6 k n o e nm v) 41 (0,0)):=by
 have b0:=heap_setCell_same h (i:=0) (sv k); have b1:=heap_setCell_same b0 (i:=1) (iv n); have b2:=heap_setCell_same b1 (i:=2) (sv o); have b3:=heap_setCell_same b2 (i:=3) (sv e); have b4:=heap_setCell_same b3 (i:=4) (sv nm); have b5:=heap_setCell_same b4 (i:=5) v; simpa using b5
theorem below_setCmd {R:Nat} {a w:World} (h:Below a.heap.size a w) (hR:a.heap.size≤R) (k:List UInt8) (n:Int) (o e nm:List UInt8) (v:Value):Below a.heap.size a (setCmd w R k n o e nm v) :=
 below_set (below_set (below_set (below_set (below_set (below_set h hR _) hR _) hR _) hR _) hR _) hR _
/-- command's memory: both effects, the result, the command itself -/
structure CmM (w0:World) (rb:Nat) (cb:Nat) (k:List UInt8) (n:Int) (o e nm:List UInt8) (v:Value) (un dn:List UInt8) (vd:Value) (w:World):Prop where
 u:∃ a0 a2 a3 a4,w.heap[w0.heap.size]? = some (.cells #[a0,sv un,a2,a3,a4] 37 (0,0))
 d:∃ a0 a3 a4,w.heap[w0.heap.size+1]? = some (.cells #[a0,sv dn,vd,a3,a4] 37 (0,0))
 r:∃ a0 a1 a2 a3 a4 a5,w.heap[rb]? = some (.cells #[a0,a1,a2,a3,a4,a5] 41 (0,0))
 c:w.heap[cb]? = some (.cells (cmd6 k n o e nm v) 41 (0,0))
 bel:Below w0.heap.size w0 w
 ge:rb=w0.heap.size+1+1∧rb < cb
theorem CmM.below {w0 w w':World} {rb cb:Nat} {k:List UInt8} {n:Int} {o e nm:List UInt8} {v:Value} {un dn:List UInt8} {vd:Value} (h:CmM w0 rb cb k n o e nm v un dn vd w) (hb:Below w.heap.size w w'):CmM w0 rb cb k n o e nm v un dn vd w':=by
 obtain ⟨a0,a2,a3,a4,h1⟩:=h.u; obtain ⟨b0,b3,b4,h2⟩:=h.d; obtain ⟨r0,r1,r2,r3,r4,r5,h3⟩:=h.r; exact ⟨⟨_,_,_,_,(hb.block _ (lt_of_heap h1)).trans h1⟩,⟨_,_,_,(hb.block _ (lt_of_heap h2)).trans h2⟩,⟨_,_,_,_,_,_,(hb.block _ (lt_of_heap h3)).trans h3⟩,(hb.block _ (lt_of_heap h.c)).trans h.c,h.bel.trans (hb.mono h.bel.size),h.ge⟩
theorem CmM.set4 {w0 w:World} {rb cb:Nat} {k:List UInt8} {n:Int} {o e nm:List UInt8} {v:Value} {un dn:List UInt8} {vd:Value} (h:CmM w0 rb cb k n o e nm v un dn vd w) (s:List UInt8):CmM w0 rb cb k n o e s v un dn vd (w.setCell ⟨cb,4,none⟩ (sv s)):=by
 obtain ⟨a0,a2,a3,a4,h1⟩:=h.u; obtain ⟨b0,b3,b4,h2⟩:=h.d; obtain ⟨r0,r1,r2,r3,r4,r5,h3⟩:=h.r; have hg:=h.ge; exact ⟨⟨_,_,_,_,(heap_setCell_other _ (by omega)).trans h1⟩,⟨_,_,_,(heap_setCell_other _ (by omega)).trans h2⟩,⟨_,_,_,_,_,_,(heap_setCell_other _ (by omega)).trans h3⟩,heap_setCell_same (i:=4) h.c _,below_set h.bel (by omega) _,hg⟩
theorem CmM.set5 {w0 w:World} {rb cb:Nat} {k:List UInt8} {n:Int} {o e nm:List UInt8} {v:Value} {un dn:List UInt8} {vd:Value} (h:CmM w0 rb cb k n o e nm v un dn vd w) (s:Value):CmM w0 rb cb k n o e nm s un dn vd (w.setCell ⟨cb,5,none⟩ s):=by
 obtain ⟨a0,a2,a3,a4,h1⟩:=h.u; obtain ⟨b0,b3,b4,h2⟩:=h.d; obtain ⟨r0,r1,r2,r3,r4,r5,h3⟩:=h.r; have hg:=h.ge; exact ⟨⟨_,_,_,_,(heap_setCell_other _ (by omega)).trans h1⟩,⟨_,_,_,(heap_setCell_other _ (by omega)).trans h2⟩,⟨_,_,_,_,_,_,(heap_setCell_other _ (by omega)).trans h3⟩,heap_setCell_same (i:=5) h.c _,below_set h.bel (by omega) _,hg⟩
/-- what command answers -/
def CPost (c:Cmd) (w:World) (e:Ending) (w':World):Prop:=∃ v,e=.returned (.agg (cmdCs c v).toArray)∧ValsR (fun q=>w.heap.size≤q∧q < w'.heap.size) w' c.args v∧Below w.heap.size w w'
set_option maxHeartbeats 40000000 in
set_option maxRecDepth 100000 in
theorem command_any (xb:Nat) (turn kind:Int) (uk un:List UInt8) (ua:List Val) (up:Bool) (ut:Int) (dk dn:List UInt8) (da:List Val) (dp:Bool) (dt:Int) (va vd:Value) (S:Foot) (w:World) (h2:w.cell? ⟨xb,2,none⟩=some (iv turn)) (hx:xb < w.heap.size) (ht:Hid (Tabs w)) (hk0:kind≤9223372036854775807) (huk:uk.length≤1000) (hdk:dk.length≤1000) (hd:ValsR S w da vd) (hdb:ValsB da) :
  Calls Tryz.prog 48 #[pt xb,iv kind,.agg #[sv uk,sv un,va,.bool up,iv ut],.agg #[sv dk,sv dn,vd,.bool dp,iv dt]] w (CPost (cmdF turn kind ⟨uk,un,ua,up,ut⟩ ⟨dk,dn,da,dp,dt⟩) w):=by
 obtain ⟨a1,c1,rfl,-⟩:=hd.slice; generalize hPQ:CPost (cmdF turn kind ⟨uk,un,ua,up,ut⟩ ⟨dk,dn,da,dp,dt⟩) w=PQ; replace hPQ:=hid hPQ; obtain ⟨vd,hvd⟩:∃ v,v=Value.slice a1 da.length c1:=⟨_,rfl⟩; have b1:Below w.heap.size w (w.alloc (.cells #[sv uk,sv un,va,.bool up,iv ut] 37 (0,0))):=(Below.refl _ w).alloc (Nat.le_refl _) _; have r1:=heap_alloc_new' w (.cells #[sv uk,sv un,va,.bool up,iv ut] 37 (0,0))
 have s1:(w.alloc (.cells #[sv uk,sv un,va,.bool up,iv ut] 37 (0,0))).heap.size=w.heap.size+1:=by simp
 obtain ⟨W1,hW1⟩:∃ W,W=w.alloc (.cells #[sv uk,sv un,va,.bool up,iv ut] 37 (0,0)):=⟨_,rfl⟩; rw [← hW1] at b1 r1 s1; have b2:Below W1.heap.size W1 (W1.alloc (.cells #[sv dk,sv dn,.slice a1 da.length c1,.bool dp,iv dt] 37 (0,0))):=(Below.refl _ W1).alloc (Nat.le_refl _) _; have r2:=heap_alloc_new' W1 (.cells #[sv dk,sv dn,.slice a1 da.length c1,.bool dp,iv dt] 37 (0,0))
 have s2:(W1.alloc (.cells #[sv dk,sv dn,.slice a1 da.length c1,.bool dp,iv dt] 37 (0,0))).heap.size=w.heap.size+1+1:=by simp; omega
 obtain ⟨W2,hW2⟩:∃ W,W=W1.alloc (.cells #[sv dk,sv dn,.slice a1 da.length c1,.bool dp,iv dt] 37 (0,0)):=⟨_,rfl⟩; rw [← hW2] at b2 r2 s2; have b3:Below W2.heap.size W2 (W2.alloc (.cells #[.string ⟨#[]⟩,.int .i64 0,.string ⟨#[]⟩,.string ⟨#[]⟩,.string ⟨#[]⟩,.slice none 0 0] 41 (0,0))):=(Below.refl _ W2).alloc (Nat.le_refl _) _; have r3:=heap_alloc_new' W2 (.cells #[.string ⟨#[]⟩,.int .i64 0,.string ⟨#[]⟩,.string ⟨#[]⟩,.string ⟨#[]⟩,.slice none 0 0] 41 (0,0))
 have s3:(W2.alloc (.cells #[.string ⟨#[]⟩,.int .i64 0,.string ⟨#[]⟩,.string ⟨#[]⟩,.string ⟨#[]⟩,.slice none 0 0] 41 (0,0))).heap.size=w.heap.size+1+1+1:=by simp; omega
 obtain ⟨W3,hW3⟩:∃ W,W=W2.alloc (.cells #[.string ⟨#[]⟩,.int .i64 0,.string ⟨#[]⟩,.string ⟨#[]⟩,.string ⟨#[]⟩,.slice none 0 0] 41 (0,0)):=⟨_,rfl⟩; rw [← hW3] at b3 r3 s3; rw [s1] at r2; rw [s2] at r3; have B2:=b1.trans (b2.mono (by omega)); have B3:=B2.trans (b3.mono (by omega))
 have r1':W3.heap[w.heap.size]? = some (.cells #[sv uk,sv un,va,.bool up,iv ut] 37 (0,0)):=by rw [b3.block _ (by omega),b2.block _ (by omega)]; exact r1
 have r2':W3.heap[w.heap.size+1]? = some (.cells #[sv dk,sv dn,.slice a1 da.length c1,.bool dp,iv dt] 37 (0,0)):=by rw [b3.block _ (by omega)]; exact r2
 have hBd:Below w.heap.size w W3.drew:=B3.drew; have o2:W3.drew.cell? ⟨xb,2,none⟩=some (iv turn):=(B3.cell (p:=⟨xb,2,none⟩) hx).trans h2; have ou:W3.drew.heap[w.heap.size]? = some (.cells #[sv uk,sv un,va,.bool up,iv ut] 37 (0,0)):=r1'; have od:W3.drew.heap[w.heap.size+1]? = some (.cells #[sv dk,sv dn,.slice a1 da.length c1,.bool dp,iv dt] 37 (0,0)):=r2'; have orr:W3.drew.heap[w.heap.size+1+1]? = some (.cells #[.string ⟨#[]⟩,.int .i64 0,.string ⟨#[]⟩,.string ⟨#[]⟩,.string ⟨#[]⟩,.slice none 0 0] 41 (0,0)):=r3; have hsz:W3.drew.heap.size=w.heap.size+1+1+1:=s3
 have hWe:=hid (show W3=((w.alloc (.cells #[sv uk,sv un,va,.bool up,iv ut] 37 (0,0))).alloc (.cells #[sv dk,sv dn,.slice a1 da.length c1,.bool dp,iv dt] 37 (0,0))).alloc (.cells #[.string ⟨#[]⟩,.int .i64 0,.string ⟨#[]⟩,.string ⟨#[]⟩,.string ⟨#[]⟩,.slice none 0 0] 41 (0,0)) from by rw [hW3,hW2,hW1]); have hkey:=hid (fun W (hW:Hid (Tabs W))=>key_any turn kind uk dk W hW hk0 huk hdk); obtain ⟨KK9,hKK⟩:∃ K,K=keyF turn kind uk dk:=⟨_,rfl⟩; rw [← hKK] at hkey; have hclone:=hid (fun W (hW:Below w.heap.size w W)=>cloneVals_any da hdb S _ W (hd.below goodVal hW)); clear b1 b2 b3 B2 r1 r2 r3 s1 s2 s3 r1' r2' hW1 hW2 hW3; replace B3:=hid B3; replace hBd:=hid hBd; replace hKK:=hid hKK; replace hd:=hid hd
 go_enter Tryz.func48,Tryz.ntmps48
 go_upto_region 1 with (fail)
 rw [← hWe.out]
 go_cut [9] (fun v9 wx=>∃ cb,v9=pt cb∧Hid (CmM w (w.heap.size+1+1) cb KK9 kind uk dk [] (.slice none 0 0) un dn (.slice a1 da.length c1) wx))
 case first =>
  have hxd:xb < W3.drew.heap.size:=by omega
  refine wp_region_held_drew (S:=fun w'=>w'.cell? ⟨xb,2,none⟩=some (iv turn)∧w'.heap[w.heap.size]? = some (.cells #[sv uk,sv un,va,.bool up,iv ut] 37 (0,0))∧w'.heap[w.heap.size+1]? = some (.cells #[sv dk,sv dn,.slice a1 da.length c1,.bool dp,iv dt] 37 (0,0))) (by kernel_rfl) ?_ (fun hHeld=>?_)
  ·exact ⟨o2,ou,od⟩
  generalize W3.drew=Wd at *; refine wTk (i:=0) (v:=?_) rfl ?hy ?_
  case hy =>
   intro w hSw; obtain ⟨s2,su,sd⟩:=hSw; obtain ⟨x0,x1,x2,x3,x4⟩:=cells5 su; obtain ⟨y0,y1,y2,y3,y4⟩:=cells5 sd; go_simp
   all_goals with_reducible rfl
  try simp only [Act.put,sI,sZ,sS]
  refine wTk (i:=1) (v:=?_) rfl ?hy ?_
  case hy =>
   intro w hSw; obtain ⟨s2,su,sd⟩:=hSw; obtain ⟨x0,x1,x2,x3,x4⟩:=cells5 su; obtain ⟨y0,y1,y2,y3,y4⟩:=cells5 sd; go_simp
   all_goals with_reducible rfl
  try simp only [Act.put,sI,sZ,sS]
  refine wTk (i:=2) (v:=?_) rfl ?hy ?_
  case hy =>
   intro w hSw; obtain ⟨s2,su,sd⟩:=hSw; obtain ⟨x0,x1,x2,x3,x4⟩:=cells5 su; obtain ⟨y0,y1,y2,y3,y4⟩:=cells5 sd; go_simp
   all_goals with_reducible rfl
  try simp only [Act.put,sI,sZ,sS]
  refine wTk (i:=3) (v:=?_) rfl ?hy ?_
  case hy =>
   intro w hSw; obtain ⟨s2,su,sd⟩:=hSw; obtain ⟨x0,x1,x2,x3,x4⟩:=cells5 su; obtain ⟨y0,y1,y2,y3,y4⟩:=cells5 sd; go_simp
   all_goals with_reducible rfl
  try simp only [Act.put,sI,sZ,sS]
  refine wTk (i:=4) (v:=?_) rfl ?hy ?_
  case hy =>
   intro w hSw; obtain ⟨s2,su,sd⟩:=hSw; obtain ⟨x0,x1,x2,x3,x4⟩:=cells5 su; obtain ⟨y0,y1,y2,y3,y4⟩:=cells5 sd; go_simp
   all_goals with_reducible rfl
  try simp only [Act.put,sI,sZ,sS]
  refine wTk (i:=5) (v:=?_) rfl ?hy ?_
  case hy =>
   intro w hSw; obtain ⟨s2,su,sd⟩:=hSw; obtain ⟨x0,x1,x2,x3,x4⟩:=cells5 su; obtain ⟨y0,y1,y2,y3,y4⟩:=cells5 sd; go_simp
   all_goals with_reducible rfl
  try simp only [Act.put,sI,sZ,sS]
  refine wTk (i:=6) (v:=?_) rfl ?hy ?_
  case hy =>
   intro w hSw; obtain ⟨s2,su,sd⟩:=hSw; obtain ⟨x0,x1,x2,x3,x4⟩:=cells5 su; obtain ⟨y0,y1,y2,y3,y4⟩:=cells5 sd; go_simp
   all_goals with_reducible rfl
  try simp only [Act.put,sI,sZ,sS]
  refine wTk (i:=7) (v:=?_) rfl ?hy ?_
  case hy =>
   intro w hSw; obtain ⟨s2,su,sd⟩:=hSw; obtain ⟨x0,x1,x2,x3,x4⟩:=cells5 su; obtain ⟨y0,y1,y2,y3,y4⟩:=cells5 sd; go_simp
   all_goals with_reducible rfl
  try simp only [Act.put,sI,sZ,sS]
  refine wTk (i:=8) (v:=?_) rfl ?hy ?_
  case hy =>
   intro w hSw; obtain ⟨s2,su,sd⟩:=hSw; obtain ⟨x0,x1,x2,x3,x4⟩:=cells5 su; obtain ⟨y0,y1,y2,y3,y4⟩:=cells5 sd; go_simp
   all_goals with_reducible rfl
  try simp only [Act.put,sI,sZ,sS]
  refine wTk (i:=10) (v:=?_) rfl ?hy ?_
  case hy =>
   intro w hSw; obtain ⟨s2,su,sd⟩:=hSw; obtain ⟨x0,x1,x2,x3,x4⟩:=cells5 su; obtain ⟨y0,y1,y2,y3,y4⟩:=cells5 sd; go_simp
   all_goals with_reducible rfl
  try simp only [Act.put,sI,sZ,sS]
  refine wTk (i:=11) (v:=?_) rfl ?hy ?_
  case hy =>
   intro w hSw; obtain ⟨s2,su,sd⟩:=hSw; obtain ⟨x0,x1,x2,x3,x4⟩:=cells5 su; obtain ⟨y0,y1,y2,y3,y4⟩:=cells5 sd; go_simp
   all_goals with_reducible rfl
  try simp only [Act.put,sI,sZ,sS]
  refine wTk (i:=12) (v:=?_) rfl ?hy ?_
  case hy =>
   intro w hSw; obtain ⟨s2,su,sd⟩:=hSw; obtain ⟨x0,x1,x2,x3,x4⟩:=cells5 su; obtain ⟨y0,y1,y2,y3,y4⟩:=cells5 sd; go_simp
   all_goals with_reducible rfl
  try simp only [Act.put,sI,sZ,sS]
  refine wTk (i:=13) (v:=?_) rfl ?hy ?_
  case hy =>
   intro w hSw; obtain ⟨s2,su,sd⟩:=hSw; obtain ⟨x0,x1,x2,x3,x4⟩:=cells5 su; obtain ⟨y0,y1,y2,y3,y4⟩:=cells5 sd; go_simp
   all_goals with_reducible rfl
  try simp only [Act.put,sI,sZ,sS]
  refine wTk (i:=14) (v:=?_) rfl ?hy ?_
  case hy =>
   intro w hSw; obtain ⟨s2,su,sd⟩:=hSw; obtain ⟨x0,x1,x2,x3,x4⟩:=cells5 su; obtain ⟨y0,y1,y2,y3,y4⟩:=cells5 sd; go_simp
   all_goals with_reducible rfl
  try simp only [Act.put,sI,sZ,sS]
  refine wpAnyH_ready (rs:=[9,16]) (by as_aux_lemma=>kernel_rfl) (by simp) ?_; refine AllReadyH.cons (o:=⟨_,_,_,_,_,_⟩) rfl (fun KK hKK2=>?_) (AllReadyH.cons (o:=⟨_,_,_,_,_,_⟩) rfl (fun KK hKK2=>?_) AllReadyH.nil)
  all_goals clear hHeld
  ·go_simp
   go_at_call 10
   with_reducible refine (hkey.out _ (hid (ht.out.below hBd.out))).mono ?_
   rintro e W5 ⟨rfl,hb5⟩; have hB5:=hid (hBd.out.trans (hb5.mono hBd.out.size)); have o2':=(hb5.cell (p:=⟨xb,2,none⟩) hxd).trans o2; have ou':=(hb5.block w.heap.size (by omega)).trans ou; have od':=(hb5.block (w.heap.size+1) (by omega)).trans od; have or':=(hb5.block (w.heap.size+1+1) (by omega)).trans orr; have hs5:=hb5.size; have kza:Below W5.heap.size W5 (W5.alloc (.cells #[.string ⟨#[]⟩,.int .i64 0,.string ⟨#[]⟩,.string ⟨#[]⟩,.string ⟨#[]⟩,.slice none 0 0] 41 (0,0))):=(Below.refl _ W5).alloc (Nat.le_refl _) _; have p2a:=(kza.cell (p:=⟨xb,2,none⟩) (by omega:xb < W5.heap.size)).trans o2'; have pua:=(kza.block w.heap.size (by omega)).trans ou'; have pda:=(kza.block (w.heap.size+1) (by omega)).trans od'; have pra:=(kza.block (w.heap.size+1+1) (by omega)).trans or'
   have kzb:Below W5.heap.size W5 (W5.alloc (.cells (cmd6 KK9 kind uk dk [] (.slice none 0 0)) 41 (0,0))):=(Below.refl _ W5).alloc (Nat.le_refl _) _; have p2b:=(kzb.cell (p:=⟨xb,2,none⟩) (by omega:xb < W5.heap.size)).trans o2'; have pub:=(kzb.block w.heap.size (by omega)).trans ou'; have pdb:=(kzb.block (w.heap.size+1) (by omega)).trans od'; have prb:=(kzb.block (w.heap.size+1+1) (by omega)).trans or'; have hMf:Hid (CmM w (w.heap.size+1+1) W5.heap.size KK9 kind uk dk [] (.slice none 0 0) un dn (.slice a1 da.length c1) (W5.alloc (.cells (cmd6 KK9 kind uk dk [] (.slice none 0 0)) 41 (0,0)))):=hid ⟨⟨_,_,_,_,pub⟩,⟨_,_,_,pdb⟩,⟨_,_,_,_,_,_,prb⟩,heap_alloc_new' W5 _,hB5.out.trans (kzb.mono hB5.out.size),⟨rfl,by omega⟩⟩; clear kza kzb; refine hKK2.out _ _ ?_ (fun hHeld2=>?_)
   ·exact ⟨o2',ou',od'⟩
   clear hKK2 KK; have hHeld:=hHeld2; clear hHeld2
   try simp only [Act.put,sI,sZ,sS]
   refine wTk (i:=15) (v:=?_) rfl ?hy ?_
   case hy =>
    intro w hSw; obtain ⟨s2,su,sd⟩:=hSw; obtain ⟨x0,x1,x2,x3,x4⟩:=cells5 su; obtain ⟨y0,y1,y2,y3,y4⟩:=cells5 sd; go_simp
    all_goals with_reducible rfl
   try simp only [Act.put,sI,sZ,sS]
   refine wpAnyH_ready (rs:=[16]) (by as_aux_lemma=>kernel_rfl) (by simp) ?_; refine rdY rfl (fun K hK=>?_); go_simp
   skip
   refine hK.out _ _ ?_ (fun hHeld2=>?_)
   ·exact ⟨p2a,pua,pda⟩
   clear hK K; clear hHeld; have hHeld:=hHeld2; clear hHeld2
   try simp only [Act.put,sI,sZ,sS]
   refine wpAnyH_ready (rs:=[17]) (by as_aux_lemma=>kernel_rfl) (by simp) ?_; refine rdY rfl (fun K hK=>?_); go_simp
   skip
   refine hK.out _ _ ?_ (fun hHeld2=>?_)
   ·exact ⟨p2b,pub,pdb⟩
   clear hK K; clear hHeld; have hHeld:=hHeld2; clear hHeld2
   try simp only [Act.put,sI,sZ,sS]
   refine wpAnyH_done (by as_aux_lemma=>kernel_rfl) ?_ _
   go_wp2_with fail
   go_meet
   case rel=>exact ⟨_,rfl,hMf⟩
  ·have kza:Below Wd.heap.size Wd (Wd.alloc (.cells #[.string ⟨#[]⟩,.int .i64 0,.string ⟨#[]⟩,.string ⟨#[]⟩,.string ⟨#[]⟩,.slice none 0 0] 41 (0,0))):=(Below.refl _ Wd).alloc (Nat.le_refl _) _
   have p2a:=(kza.cell (p:=⟨xb,2,none⟩) (by omega:xb < Wd.heap.size)).trans o2; have pua:=(kza.block w.heap.size (by omega)).trans ou; have pda:=(kza.block (w.heap.size+1) (by omega)).trans od; have pra:=(kza.block (w.heap.size+1+1) (by omega)).trans orr; have na:=heap_alloc_new' Wd (.cells #[.string ⟨#[]⟩,.int .i64 0,.string ⟨#[]⟩,.string ⟨#[]⟩,.string ⟨#[]⟩,.slice none 0 0] 41 (0,0))
   have sA:(Wd.alloc (.cells #[.string ⟨#[]⟩,.int .i64 0,.string ⟨#[]⟩,.string ⟨#[]⟩,.string ⟨#[]⟩,.slice none 0 0] 41 (0,0))).heap.size=w.heap.size+1+1+1+1:=by simp; omega
   have hBA:=hid (hBd.out.trans (kza.mono (by omega))); obtain ⟨cb,hcb⟩:∃ c,c=w.heap.size+1+1+1:=⟨_,rfl⟩; rw [hsz,← hcb] at na; obtain ⟨WA,hWA⟩:∃ W,W=Wd.alloc (.cells #[.string ⟨#[]⟩,.int .i64 0,.string ⟨#[]⟩,.string ⟨#[]⟩,.string ⟨#[]⟩,.slice none 0 0] 41 (0,0)):=⟨_,rfl⟩; rw [← hWA] at hBA p2a pua pda pra na sA; replace hWA:=hid hWA; clear kza; go_simp; rw [← hcb,← hWA.out]; refine hKK2.out _ _ ?_ (fun hHeld2=>?_)
   ·exact ⟨p2a,pua,pda⟩
   clear hKK2 KK; have hHeld:=hHeld2; clear hHeld2
   try simp only [Act.put,sI,sZ,sS]
   replace hcb:=hid hcb; refine wpAnyH_ready (rs:=[9]) (by as_aux_lemma=>kernel_rfl) (by simp) ?_; refine rdY rfl (fun K hK=>?_); go_simp
   go_at_call 10
   with_reducible refine (hkey.out _ (hid (ht.out.below hBA.out))).mono ?_
   rintro e W6 ⟨rfl,hb6⟩; have hB6:=hid (hBA.out.trans (hb6.mono hBA.out.size)); have o2':=(hb6.cell (p:=⟨xb,2,none⟩) (by omega:xb < WA.heap.size)).trans p2a; have ou':=(hb6.block w.heap.size (by omega)).trans pua; have od':=(hb6.block (w.heap.size+1) (by omega)).trans pda; have or':=(hb6.block (w.heap.size+1+1) (by omega)).trans pra; have hcb':=hcb.out; have nc:=(hb6.block cb (by omega)).trans na; obtain ⟨q0,q1,q2,q3,q4,q5⟩:=cells6 nc
   have qz:=fun i=>free_of (i:=i) nc
   have nf:=cmd_set nc KK9 kind uk dk [] (.slice none 0 0)
   have hrel2:∀ b o,b≠cb→W6.heap[b]? = some o→(setCmd W6 cb KK9 kind uk dk [] (.slice none 0 0)).heap[b]? = some o:=fun b o hne hbo=>by
    unfold setCmd; rw [heap_setCell_other _ hne,heap_setCell_other _ hne,heap_setCell_other _ hne,heap_setCell_other _ hne,heap_setCell_other _ hne,heap_setCell_other _ hne]; exact hbo
   have hBf:=below_setCmd hB6.out (show w.heap.size≤cb by omega) KK9 kind uk dk [] (.slice none 0 0); have pub:=hrel2 _ _ (by omega) ou'; have pdb:=hrel2 _ _ (by omega) od'; have prb:=hrel2 _ _ (by omega) or'; have p2b:=(hBf.cell (p:=⟨xb,2,none⟩) hx).trans h2; have hMf:Hid (CmM w (w.heap.size+1+1) cb KK9 kind uk dk [] (.slice none 0 0) un dn (.slice a1 da.length c1) (setCmd W6 cb KK9 kind uk dk [] (.slice none 0 0))):=hid ⟨⟨_,_,_,_,pub⟩,⟨_,_,_,pdb⟩,⟨_,_,_,_,_,_,prb⟩,nf,hBf,⟨rfl,by omega⟩⟩; replace hBf:=hid hBf; clear hrel2 nf nc hb6 hcb'; refine hK.out _ _ ?_ (fun hHeld2=>?_)
   ·exact ⟨o2',ou',od'⟩
   clear hK K; clear hHeld; have hHeld:=hHeld2; clear hHeld2
   try simp only [Act.put,sI,sZ,sS]
   refine wTk (i:=15) (v:=?_) rfl ?hy ?_
   case hy =>
    intro w hSw; obtain ⟨s2,su,sd⟩:=hSw; obtain ⟨x0,x1,x2,x3,x4⟩:=cells5 su; obtain ⟨y0,y1,y2,y3,y4⟩:=cells5 sd; go_simp
    all_goals with_reducible rfl
   try simp only [Act.put,sI,sZ,sS]
   refine wpAnyH_ready (rs:=[17]) (by as_aux_lemma=>kernel_rfl) (by simp) ?_; refine rdY rfl (fun K hK=>?_); go_simp
   skip
   refine hK.out _ _ ?_ (fun hHeld2=>?_)
   ·exact ⟨p2b,pub,pdb⟩
   clear hK K; clear hHeld; have hHeld:=hHeld2; clear hHeld2
   try simp only [Act.put,sI,sZ,sS]
   refine wpAnyH_done (by as_aux_lemma=>kernel_rfl) ?_ _
   go_wp2_with fail
   go_meet
   case rel=>exact ⟨_,rfl,hMf⟩
 case rest =>
  obtain ⟨cb,rfl,hM⟩:=hcut; clear ou od orr o2 hkey hWe hBd B3 hsz hvd; have hge:=hM.out.ge; by_cases hk:kind=2∨kind=3
  ·have hcm:cmdF turn kind ⟨uk,un,ua,up,ut⟩ ⟨dk,dn,da,dp,dt⟩=⟨KK9,kind,uk,dk,un,[]⟩:=by rw [hKK.out]; unfold cmdF; rw [if_pos hk,if_pos hk]
   obtain ⟨a0,a2,a3,a4,hu⟩:=hM.out.u; obtain ⟨x0,x1,x2,x3,x4⟩:=cells5 hu; obtain ⟨c0,c1',c2,c3,c4,c5,cz⟩:=cmd_cells hM.out.c; have hM4:=hM.out.set4 un; obtain ⟨z0,z1,z2,z3,z4,z5,zz⟩:=cmd_cells hM4.c; obtain ⟨r0,r1,r2,r3,r4,r5,hr⟩:=hM4.r; obtain ⟨y0,y1,y2,y3,y4,y5⟩:=cells6 hr
   have yz:=fun i=>free_of (i:=i) hr
   have hfin:=cmd_set hr KK9 kind uk dk un (.slice none 0 0); have hbf:=below_setCmd hM4.bel (show w.heap.size≤w.heap.size+1+1 by omega) KK9 kind uk dk un (.slice none 0 0)
   have hpost:Hid (∀ W,Below w.heap.size w W→PQ (.returned (.agg (cmd6 KK9 kind uk dk un (.slice none 0 0)))) W):=hid fun W hW=>by
    rw [← hPQ.out,hcm]; exact ⟨_,rfl,SlR.nil _ _ _ _ 0,hW⟩
   replace hfin:=hid hfin; replace hbf:=hid hbf; clear hM4 hr hu hM hcm hclone hge; rcases hk with rfl | rfl
   all_goals go_wp2_with fail
   all_goals refine bodyPost_ret (results_cell_row (by rfl) _ _ (w.heap.size+1+1) 41 _ (0,0) _ (by rfl) hfin.out Tryz.underlying41 rfl (by kernel_rfl)) rfl (hpost.out _ hbf.out)
  ·have hcm:cmdF turn kind ⟨uk,un,ua,up,ut⟩ ⟨dk,dn,da,dp,dt⟩=⟨KK9,kind,uk,dk,dn,da⟩:=by rw [hKK.out]; unfold cmdF; rw [if_neg hk,if_neg hk]
   have k2:(kind == 2)=false:=by simp; omega
   have k3:(kind == 3)=false:=by simp; omega
   have k2':¬ kind=2:=by omega
   have k3':¬ kind=3:=by omega
   obtain ⟨a0,a3,a4,hdd⟩:=(hM.out.below ((Below.refl _ wc).drew:Below wc.heap.size wc wc.drew)).d; have hcl:=hclone.out wc.drew (hM.out.bel.drew); have hMd:=hid (hM.out.below ((Below.refl _ wc).drew:Below wc.heap.size wc wc.drew)); obtain ⟨q0,q1,q2,q3,q4,q5,qz⟩:=cmd_cells hMd.out.c; replace hcl:=hid hcl; replace hcm:=hid hcm; clear hclone hk hM
   go_wp2_with fail
   refine wp_region_held_drew (S:=fun w'=>w'.heap[w.heap.size+1]? = some (.cells #[a0,sv dn,.slice a1 da.length c1,a3,a4] 37 (0,0))) (by kernel_rfl) ?_ (fun hHeld=>?_)
   ·exact hdd
   generalize wc.drew=Wd at *; refine wTk (i:=0) (v:=?_) rfl ?hy ?_
   case hy =>
    intro w hSw; obtain ⟨y0,y1,y2,y3,y4⟩:=cells5 hSw; go_simp
    all_goals with_reducible rfl
   try simp only [Act.put,sI,sZ,sS]
   refine wTk (i:=1) (v:=?_) rfl ?hy ?_
   case hy =>
    intro w hSw; obtain ⟨y0,y1,y2,y3,y4⟩:=cells5 hSw; go_simp
    all_goals with_reducible rfl
   try simp only [Act.put,sI,sZ,sS]
   refine wTk (i:=2) (v:=?_) rfl ?hy ?_
   case hy =>
    intro w hSw; obtain ⟨y0,y1,y2,y3,y4⟩:=cells5 hSw; go_simp
    all_goals with_reducible rfl
   try simp only [Act.put,sI,sZ,sS]
   refine wTk (i:=3) (v:=?_) rfl ?hy ?_
   case hy =>
    intro w hSw; obtain ⟨y0,y1,y2,y3,y4⟩:=cells5 hSw; go_simp
    all_goals with_reducible rfl
   try simp only [Act.put,sI,sZ,sS]
   refine wTk (i:=5) (v:=?_) rfl ?hy ?_
   case hy =>
    intro w hSw; obtain ⟨y0,y1,y2,y3,y4⟩:=cells5 hSw; go_simp
    all_goals with_reducible rfl
   try simp only [Act.put,sI,sZ,sS]
   refine wpAnyH_ready (rs:=[4]) (by as_aux_lemma=>kernel_rfl) (by simp) ?_; refine rdY rfl (fun K hK=>?_); go_simp
   go_at_call 54
   with_reducible refine hcl.out.mono ?_
   rintro e W5 ⟨v5',rfl,hO5,hb5⟩; obtain ⟨a5,c5',hv5,-,-⟩:=hO5.slice; subst hv5; have hM5:=hMd.out.below hb5; have hd5:=(hb5.block (w.heap.size+1) (lt_of_heap hdd)).trans hdd; obtain ⟨p0,p1,p2,p3,p4,p5,pz⟩:=cmd_cells hM5.c; have hM6:=hM5.set4 dn
   have hne1:w.heap.size+1≠cb:=by omega
   have hd6:=(heap_setCell_other (i:=4) (sv dn) hne1).trans hd5; obtain ⟨p0',p1',p2',p3',p4',p5',pz'⟩:=cmd_cells hM6.c; have hM7:=hM6.set5 (.slice a5 da.length c5'); have hd7:=(heap_setCell_other (i:=5) (.slice a5 da.length c5') hne1).trans hd6; obtain ⟨z0,z1,z2,z3,z4,z5,zz⟩:=cmd_cells hM7.c; obtain ⟨r0,r1,r2,r3,r4,r5,hr⟩:=hM7.r; obtain ⟨t0,t1,t2,t3,t4,t5⟩:=cells6 hr
   have yz:=fun i=>free_of (i:=i) hr
   have hfin:=cmd_set hr KK9 kind uk dk dn (.slice a5 da.length c5'); have hbf:=below_setCmd hM7.bel (show w.heap.size≤w.heap.size+1+1 by omega) KK9 kind uk dk dn (.slice a5 da.length c5'); have hsl5:=hO5.sl goodVal
   have hpost:Hid (PQ (.returned (.agg (cmd6 KK9 kind uk dk dn (.slice a5 da.length c5')))) (setCmd ((W5.setCell ⟨cb,4,none⟩ (sv dn)).setCell ⟨cb,5,none⟩ (.slice a5 da.length c5')) (w.heap.size+1+1) KK9 kind uk dk dn (.slice a5 da.length c5'))):=hid (by
    rw [← hPQ.out,hcm.out]; refine ⟨_,rfl,hsl5.move goodVal fun q hq hs=>?_,hbf⟩; have hwd:w.heap.size≤Wd.heap.size:=hMd.out.bel.size; have hcw:=lt_of_heap hMd.out.c; unfold from_ at hs; refine ⟨⟨by omega,?_⟩,?_⟩
    ·simp only [World.size_setCell]; exact hq
    ·rw [heap_setCell_other _ (by omega),heap_setCell_other _ (by omega),heap_setCell_other _ (by omega),heap_setCell_other _ (by omega),heap_setCell_other _ (by omega),heap_setCell_other _ (by omega),heap_setCell_other _ (by omega),heap_setCell_other _ (by omega)])
   replace hfin:=hid hfin; clear hb5 hM5 hM6 hM7 hr hO5 hsl5 hbf; refine hK.out _ _ ?_ (fun hHeld2=>?_)
   ·exact hd5
   clear hK K; clear hHeld; have hHeld:=hHeld2; clear hHeld2
   try simp only [Act.put,sI,sZ,sS]
   refine wpAnyH_ready (rs:=[6]) (by as_aux_lemma=>kernel_rfl) (by simp) ?_; refine rdY rfl (fun K hK=>?_); go_simp
   skip
   refine hK.out _ _ ?_ (fun hHeld2=>?_)
   ·exact hd6
   clear hK K; clear hHeld; have hHeld:=hHeld2; clear hHeld2
   try simp only [Act.put,sI,sZ,sS]
   refine wTk (i:=7) (v:=?_) rfl ?hy ?_
   case hy =>
    intro w hSw; obtain ⟨y0,y1,y2,y3,y4⟩:=cells5 hSw; go_simp
    all_goals with_reducible rfl
   try simp only [Act.put,sI,sZ,sS]
   refine wpAnyH_ready (rs:=[8]) (by as_aux_lemma=>kernel_rfl) (by simp) ?_; refine rdY rfl (fun K hK=>?_); go_simp
   skip
   refine hK.out _ _ ?_ (fun hHeld2=>?_)
   ·exact hd7
   clear hK K; clear hHeld; have hHeld:=hHeld2; clear hHeld2
   try simp only [Act.put,sI,sZ,sS]
   refine wpAnyH_done (by as_aux_lemma=>kernel_rfl) ?_ _
   go_wp2_with fail
   refine bodyPost_ret (results_cell_row (by rfl) _ _ (w.heap.size+1+1) 41 _ (0,0) _ (by rfl) hfin.out Tryz.underlying41 rfl (by kernel_rfl)) rfl hpost.out
end Go.Proofs.YtfejagpjahoibaaGreatDoor
