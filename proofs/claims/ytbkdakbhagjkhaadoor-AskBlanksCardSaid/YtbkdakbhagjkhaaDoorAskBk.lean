/- Tmp27: AskBl, AskBk, in one text. -/
import Derived.Test.YtbkdakbhagjkhaaDoorAskX
import Derived.Test.YtbkdakbhagjkhaaDoorLexI
import Derived.Test.YtbkdakbhagjkhaaDoorAskZs
set_option linter.unusedVariables false
namespace Go.Proofs.YtbkdakbhagjkhaaDoor
open Go.RowKit
open Go.Lib (hid byteCells itoa)
/-- a comment ahead of token i -/
def blankF (s : List UInt8) (k : Nat) : List UInt8:=s.take k ++ (gapZ ++ s.drop k)
theorem blank_scan {s : List UInt8} {l : List Tk} {i : Nat} {x : Tk} (h : scanF s = .ok l) (hi : l[i]? = some x) (hs : s.length ≤ 30000) :
  ∃ k : Nat,x.pos = (k : Int) ∧ k ≤ s.length ∧ scanF (blankF s k) = .ok (l.take i ++ (l.drop i).map (shiftT 6)) ∧ (∀ (j : Nat) (y : Tk),j < i → l[j]? = some y → y.pos < k) ∧ (∀ (j : Nat) (y : Tk),i ≤ j → l[j]? = some y → (k : Int) ≤ y.pos):=by
 obtain ⟨h1,h2,-⟩:=scanF_scans h; obtain ⟨u,D,t,g1,g2,g3,g4,g5,g6,g7⟩:=scan_ins s.length i s l (Nat.le_refl _) h2 (List.getElem?_eq_some_iff.1 hi).1; rw [hi] at g2; injection g2 with g2; subst g2
 have hu : u.length + D.length = s.length:=by rw [g1]; simp
 have hk : x.pos = (u.length : Int):=by rw [g3]; omega
 refine ⟨u.length,hk,by omega,?_,fun j y hj hy=>by have:=g6 j y hj hy; omega,fun j y hj hy=>by have:=g7 j y hj hy; omega⟩
 have e1 : s.take u.length = u:=by rw [g1]; simp
 have e2 : s.drop u.length = D:=by rw [g1]; simp
 have e3 : (u ++ (gapZ ++ D)).length = s.length + 6:=by simp [gapZ]; omega
 unfold blankF; rw [e1,e2]; unfold scanF; rw [if_neg (by rw [e3]; omega),e3]
 have : scanE (s.length + 6) (u ++ (gapZ ++ D)) = scanG (s.length + 6) (s.length + 6 + 1) (u ++ (gapZ ++ D)):=by unfold scanE; rw [e3]
 rw [← this]; exact g5
/-- what AskBlanks says -/
def Blanks (r r' : Except (Int × Int) Qu) (k : Int) : Prop:=match r with
 | .ok q=>r' = .ok q
 | .error (e,p)=>e ≠ 0 ∧ ∃ p',r' = .error (e,p') ∧ (p < k → p' = p) ∧ (k ≤ p → p' = p + 6) ∧ p ≤ 100000
theorem blanks_law {s : List UInt8} {l : List Tk} {i : Nat} {x : Tk} (h : scanF s = .ok l) (hi : l[i]? = some x) (hs : s.length ≤ 30000) : ∃ k : Nat,x.pos = (k : Int) ∧ k ≤ s.length ∧ Blanks (parseF s) (parseF (blankF s k)) k:=by
 obtain ⟨k,h1,h2,h3,h4,h5⟩:=blank_scan h hi hs; refine ⟨k,h1,h2,?_⟩; have hil:=(List.getElem?_eq_some_iff.1 hi).1
 have hm : (l.take i ++ (l.drop i).map (shiftT 6)).map tw = l.map tw:=by
  rw [List.map_append,List.map_map,show (tw ∘ shiftT 6) = tw from funext fun t=>rfl,← List.map_append,List.take_append_drop]
 have hlen : (blankF s k).length = s.length + 6:=by unfold blankF; simp [gapZ]; omega
 rw [parse_eq,parse_eq,h,h3]; show Blanks (parseE s l (queryP (l.map tw) ((l.map tw).length + 1) st0 [])) (parseE (blankF s k) _ (queryP ((l.take i ++ (l.drop i).map (shiftT 6)).map tw) (((l.take i ++ (l.drop i).map (shiftT 6)).map tw).length + 1) st0 [])) k; rw [hm]; have hq:=queryP_e (l.map tw) ((l.map tw).length + 1) st0 [] rfl (Nat.zero_le _) (by show (l.map tw).length < (l.map tw).length + 1 + 0; omega)
 have hpos : ∀ y ∈ l,y.pos ≤ 100000:=by
  intro y hy; obtain ⟨j,hj⟩:=List.mem_iff_getElem?.1 hy; obtain ⟨p,e,g1,g2,g3,-⟩:=off_law h hj; rw [g1]; omega
 generalize queryP (l.map tw) ((l.map tw).length + 1) st0 [] = r at *; obtain ⟨o,st⟩:=r
 cases o with
 | some q=>rfl
 | none =>
  obtain ⟨e,j,he,hne⟩:=hq; replace he : st.err = some (e,j):=he; unfold parseE; simp only [he]; refine ⟨hne,_,rfl,?_⟩; unfold posF; by_cases hj : j < i
  ·obtain ⟨y,hy⟩ : ∃ y,l[j]? = some y:=⟨_,List.getElem?_eq_getElem (by omega)⟩
   have hy2 : (l.take i ++ (l.drop i).map (shiftT 6))[j]? = some y:=by
    rw [List.getElem?_append_left (by rw [List.length_take]; omega),List.getElem?_take,if_pos hj,hy]
   rw [hy,hy2]; have:=h4 j y hj hy; have hb:=hpos y (List.mem_of_getElem? hy); exact ⟨fun _=>rfl,fun g=>by simp only at g; omega,hb⟩
  ·by_cases hj2 : j < l.length
   ·obtain ⟨y,hy⟩ : ∃ y,l[j]? = some y:=⟨_,List.getElem?_eq_getElem hj2⟩
    have hy2 : (l.take i ++ (l.drop i).map (shiftT 6))[j]? = some (shiftT 6 y):=by
     rw [List.getElem?_append_right (by rw [List.length_take]; omega),List.length_take,List.getElem?_map,List.getElem?_drop,show i + (j - min i l.length) = j by omega,hy]; rfl
    rw [hy,hy2]; have:=h5 j y (by omega) hy; have hb:=hpos y (List.mem_of_getElem? hy); exact ⟨fun g=>by simp only at g; omega,fun _=>rfl,hb⟩
   ·have hy : l[j]? = none:=List.getElem?_eq_none (by omega)
    have hy2 : (l.take i ++ (l.drop i).map (shiftT 6))[j]? = none:=List.getElem?_eq_none (by simp; omega); rw [hy,hy2,hlen]; exact ⟨fun g=>by simp only at g; omega,fun _=>by simp,by simp only; omega⟩
end Go.Proofs.YtbkdakbhagjkhaaDoor
set_option linter.unusedSimpArgs false
namespace Go.Proofs.YtbkdakbhagjkhaaDoor
open Go.RowKit
open Go.Lib (hid byteCells itoa)
set_option maxHeartbeats 1000000 in
set_option maxRecDepth 100000 in
theorem scan_big (s : List UInt8) (w : World) (hbig : 32768 < s.length) : Calls Tryd.prog 11 #[sv s] w (ScanPost w (scanF s)):=by
 have q1 : decide ((s.length : Int) > 32768) = true:=decide_eq_true (by omega)
 have q1i : (32768 : Int) < (s.length : Int):=by omega
 have hv:=hid (show scanF s = .error (15,0) by unfold scanF; rw [if_pos hbig]); rw [hv.out]
 go_enter Tryd.func11,Tryd.ntmps11
 go_wp2_with fail
 go_step3
 go_wp2_with fail
 rw [Exit.noGoto_ret]; refine bodyPost_ret (results_tmp3 Tryd.results11 _ _ _) rfl ?_; exact ⟨Below.refl _ _,rfl⟩
theorem scan_all (s : List UInt8) (w : World) : Calls Tryd.prog 11 #[sv s] w (ScanPost w (scanF s)):=by
 by_cases h : 32768 < s.length
 ·exact scan_big s w h
 ·exact scan_any s w (by omega)
set_option maxHeartbeats 4000000 in
set_option maxRecDepth 100000 in
theorem AskBlanks_walk (s : List UInt8) (at_ : Int) (w : World) (hTab : Hid (Tab w)) : Calls Tryd.prog 4 #[sv s,iv at_] w fun e w'=>e = .returned (.bool true) ∧ Below w.heap.size w w':=by
 have hsm:=hid (small_any w hTab.out); have hsc:=hid (fun W=>scan_all s W)
 have hbl:=fun l i x (h : scanF s = .ok l) (hi : l[i]? = some x) (hs : s.length ≤ 30000)=>blanks_law h hi hs
 have her:=fun x (h : scanF s = .error x)=>err_law h
 have hsk:=fun l (h : scanF s = .ok l)=>scanF_ok h
 obtain ⟨rs,hrs⟩ : ∃ rs,rs = scanF s:=⟨_,rfl⟩; rw [← hrs] at hsc hbl her hsk; replace hrs:=hid hrs; replace hbl:=hid hbl
 go_enter Tryd.func4,Tryd.ntmps4
 go_wp2_with fail
 with_reducible refine hsm.out.mono ?_
 rintro e w1 ⟨rfl,hb1⟩; have hA1:=hid hb1; clear hb1 hsm
 go_wp2_with fail
 refine (hsc.out _).mono ?_; rintro e w2 ⟨hb2,hres⟩; have hA2:=hid (hA1.out.trans (hb2.mono hA1.out.size)); clear hsc; by_cases hlen : 3000 < s.length
 ·have kl : decide ((s.length : Int) > 3000) = true:=decide_eq_true (by omega)
  have kli : (3000 : Int) < (s.length : Int):=by omega
  obtain ⟨v1,v2,v3,he⟩ : ∃ v1 v2 v3,e = .returned (.tuple #[v1,v2,v3]):=by
   cases rs with
   | ok l=>obtain ⟨v,rfl,-⟩:=hres; exact ⟨_,_,_,rfl⟩
   | error x=>exact ⟨_,_,_,hres⟩
  subst he; replace hlen:=hid hlen; clear hres hb2
  go_wp2_with fail
  go_ret; exact ⟨rfl,hA2.out⟩
 ·have kl : decide ((s.length : Int) > 3000) = false:=decide_eq_false (by omega)
  have kli : ¬ (3000 : Int) < (s.length : Int):=by omega
  have hs3 : s.length ≤ 3000:=by omega
  replace hlen:=hid hlen
  cases rs with
  | error x =>
   obtain ⟨xe,xp⟩:=x; replace hres : e = .returned (.tuple #[.slice none 0 0,iv xe,iv xp]):=hres; subst hres; have hne : xe ≠ 0:=(her _ rfl).1
   have d1 : (xe == 0) = false:=by simpa using hne
   have d2 : (xe != 0) = true:=by simp [bne,d1]
   replace hne : ¬ xe = 0:=hne; clear hb2 her
   go_wp2_with fail
   go_ret; exact ⟨rfl,hA2.out⟩
  | ok l =>
   obtain ⟨tv,rfl,hO⟩:=hres; obtain ⟨ta,tc,rfl,-,-⟩:=hO.slice; by_cases hneg : at_ < 0
   ·have kn : decide (at_ < 0) = true:=decide_eq_true hneg
    clear hb2 her hsk hO
    go_wp2_with fail
    go_ret; exact ⟨rfl,hA2.out⟩
   ·have kn : decide (at_ < 0) = false:=decide_eq_false hneg
    obtain ⟨i,rfl⟩ : ∃ i : Nat,at_ = (i : Int):=⟨at_.toNat,by omega⟩; by_cases hge : l.length ≤ i
    ·have kg : decide ((i : Int) ≥ (l.length : Int)) = true:=decide_eq_true (by omega)
     have kgi : (l.length : Int) ≤ (i : Int):=by omega
     replace hge:=hid hge; clear hb2 her hsk hO
     go_wp2_with fail
     go_ret; exact ⟨rfl,hA2.out⟩
    ·have kg : decide ((i : Int) ≥ (l.length : Int)) = false:=decide_eq_false (by omega)
     have kgi : ¬ (l.length : Int) ≤ (i : Int):=by omega
     obtain ⟨x,hx⟩ : ∃ x,l[i]? = some x:=⟨_,List.getElem?_eq_getElem (by omega)⟩; obtain ⟨k,hk1,hk2,hB⟩:=hbl.out l i x rfl hx (by omega); obtain ⟨g,o,cs,hidx,-,hg,hc,hr⟩:=(hO.sl goodTk).at (P:=Tryd.prog) (t:=36) (by kernel_rfl) (fun _=>by kernel_rfl) hx; have hr' : cs = tkc x:=hr; subst hr'
     have d3 : w2.cell? ⟨g,o + 3,none⟩ = some (iv (k : Int)):=by rw [← hk1]; exact hc 3 _ rfl
     clear hc hr; have hex1:=ext_take s k; have hex2:=ext_drop s k; obtain ⟨u,hu⟩ : ∃ u,u = s.take k:=⟨_,rfl⟩; obtain ⟨v,hv⟩ : ∃ v,v = s.drop k:=⟨_,rfl⟩; rw [← hu] at hex1; rw [← hv] at hex2
     have hul : u.length ≤ 3000:=by rw [hu,List.length_take]; omega
     have hvl : v.length ≤ 3000:=by rw [hv,List.length_drop]; omega
     obtain ⟨u1,hu1⟩ : ∃ u1,u1 = u ++ gapZ:=⟨_,rfl⟩; obtain ⟨t,ht⟩ : ∃ t,t = u1 ++ v:=⟨_,rfl⟩
     have htb : blankF s k = t:=by rw [ht,hu1,hu,hv]; unfold blankF; simp
     have hcat1 : ByteArray.mk u.toArray ++ ByteArray.mk #[32,47,47,32,120,10] = ⟨u1.toArray⟩:=by rw [hu1]; unfold gapZ; simp [ByteArray.mk_append_mk]
     have hcat2 : ByteArray.mk u1.toArray ++ ByteArray.mk v.toArray = ⟨t.toArray⟩:=by rw [ht]; simp [ByteArray.mk_append_mk]
     have hu1l : u1.length ≤ 3006:=by rw [hu1,List.length_append]; show u.length + 6 ≤ _; omega
     have htl : t.length ≤ 6006:=by rw [ht,List.length_append]; omega
     have hn1 : ¬ 9223372036854775807 < u.length + 6:=by omega
     have hn2 : ¬ 9223372036854775807 < u1.length + v.length:=by omega
     have hki : (k : Int) ≤ (s.length : Int):=by omega
     rw [htb] at hB; have hp2:=hid (fun W (hW : Below w.heap.size w W)=>parse_g t W (by omega) ((TabN.of hTab.out (Nat.le_refl w.heap.size)).below hW).tab); replace hu:=hid hu; replace hv:=hid hv; replace hu1:=hid hu1; replace ht:=hid ht; replace htb:=hid htb; replace hge:=hid hge; replace hx:=hid hx; replace hO:=hid hO; replace hB:=hid hB; replace hk1:=hid hk1; clear her hsk hb2
     go_wp2_with fail
     go_quiet (fail)
     generalize hwd : World.drewN _ _ = wd
     have hbd : Below w2.heap.size w2 wd:=by rw [← hwd]; exact below_drewM (Below.refl _ _) _
     have hA3:=hid (hA2.out.trans (hbd.mono hA2.out.size)); have hp1:=parse_g s wd (by omega) ((TabN.of hTab.out (Nat.le_refl w.heap.size)).below hA3.out).tab; obtain ⟨r1,hr1⟩ : ∃ r,r = parseF s:=⟨_,rfl⟩; obtain ⟨r2,hr2⟩ : ∃ r,r = parseF t:=⟨_,rfl⟩; rw [← hr1] at hp1; replace hB:=hB.out; rw [← hr1,← hr2] at hB; rw [← hr2] at hp2; replace hr1:=hid hr1; replace hr2:=hid hr2; replace hp1:=hid hp1; replace hwd:=hid hwd; clear hbd d3 hcat1 hcat2 hex1 hex2
     go_wp2_with fail
     refine hp1.out.mono ?_; rintro e w3 ⟨hb3,hq1⟩; clear hp1
     cases r1 with
     | ok q =>
      have hr2E : r2 = .ok q:=hB; obtain ⟨hok,ra,rc,aa,ac,rfl,k1,g1⟩:=hq1; have hc3 : Below wd.heap.size wd (w3.alloc (.cells (qcells (.slice ra q.g.rules.length rc) q.g.goal.op q.g.goal.nt q.g.goal.rel (.slice aa q.g.goal.args.length ac)) 27)):=hb3.alloc hb3.size _; have hA4:=hid (hA3.out.trans (hc3.mono hA3.out.size)); have xA:=hid (heap_alloc_new' w3 (.cells (qcells (.slice ra q.g.rules.length rc) q.g.goal.op q.g.goal.nt q.g.goal.rel (.slice aa q.g.goal.args.length ac)) 27)); have ha3 : Below w3.heap.size w3 (w3.alloc (.cells (qcells (.slice ra q.g.rules.length rc) q.g.goal.op q.g.goal.nt q.g.goal.rel (.slice aa q.g.goal.args.length ac)) 27)):=(Below.refl _ _).alloc (Nat.le_refl _) _; have k1':=hid (k1.below goodRg ha3); have g1':=hid (g1.below goodTg ha3); clear k1 g1 ha3
      have hp3:=hp2.out (w3.alloc (.cells (qcells (.slice ra q.g.rules.length rc) q.g.goal.op q.g.goal.nt q.g.goal.rel (.slice aa q.g.goal.args.length ac)) 27)) hA4.out; rw [hr2E] at hp3; replace hp3:=hid hp3; clear hb3 hc3
      go_wp2_with fail
      refine hp3.out.mono ?_; rintro e w4 ⟨hb4,hq2⟩; obtain ⟨hok2,ra2,rc2,aa2,ac2,rfl,k2,g2⟩:=hq2; have hc4 : Below (w3.alloc (.cells (qcells (.slice ra q.g.rules.length rc) q.g.goal.op q.g.goal.nt q.g.goal.rel (.slice aa q.g.goal.args.length ac)) 27)).heap.size (w3.alloc (.cells (qcells (.slice ra q.g.rules.length rc) q.g.goal.op q.g.goal.nt q.g.goal.rel (.slice aa q.g.goal.args.length ac)) 27)) (w4.alloc (.cells (qcells (.slice ra2 q.g.rules.length rc2) q.g.goal.op q.g.goal.nt q.g.goal.rel (.slice aa2 q.g.goal.args.length ac2)) 27)):=hb4.alloc hb4.size _; have hA5:=hid (hA4.out.trans (hc4.mono hA4.out.size)); have xA2:=hid (below_keep hc4 xA.out (lt_of_heap xA.out))
      have xB:=heap_alloc_new' w4 (.cells (qcells (.slice ra2 q.g.rules.length rc2) q.g.goal.op q.g.goal.nt q.g.goal.rel (.slice aa2 q.g.goal.args.length ac2)) 27); have ha4 : Below w4.heap.size w4 (w4.alloc (.cells (qcells (.slice ra2 q.g.rules.length rc2) q.g.goal.op q.g.goal.nt q.g.goal.rel (.slice aa2 q.g.goal.args.length ac2)) 27)):=(Below.refl _ _).alloc (Nat.le_refl _) _; have hsm:=hid (same_t q.g hok ra ra2 rc rc2 aa aa2 ac ac2 _ _ (w4.alloc (.cells (qcells (.slice ra2 q.g.rules.length rc2) q.g.goal.op q.g.goal.nt q.g.goal.rel (.slice aa2 q.g.goal.args.length ac2)) 27)) (k1'.out.below goodRg hc4) (k2.below goodRg ha4) (g1'.out.below goodTg hc4) (g2.below goodTg ha4)); clear k2 g2 ha4
      have b0 : (w4.alloc (.cells (qcells (.slice ra2 q.g.rules.length rc2) q.g.goal.op q.g.goal.nt q.g.goal.rel (.slice aa2 q.g.goal.args.length ac2)) 27)).cell? ⟨w3.heap.size,0,none⟩ = some (.slice ra q.g.rules.length rc):=(cell_of (i:=0) xA2.out).trans rfl; have b1 : (w4.alloc (.cells (qcells (.slice ra2 q.g.rules.length rc2) q.g.goal.op q.g.goal.nt q.g.goal.rel (.slice aa2 q.g.goal.args.length ac2)) 27)).cell? ⟨w3.heap.size,1,none⟩ = some (iv q.g.goal.op):=(cell_of (i:=1) xA2.out).trans rfl; have b2 : (w4.alloc (.cells (qcells (.slice ra2 q.g.rules.length rc2) q.g.goal.op q.g.goal.nt q.g.goal.rel (.slice aa2 q.g.goal.args.length ac2)) 27)).cell? ⟨w3.heap.size,2,none⟩ = some (.bool q.g.goal.nt):=(cell_of (i:=2) xA2.out).trans rfl
      have b3 : (w4.alloc (.cells (qcells (.slice ra2 q.g.rules.length rc2) q.g.goal.op q.g.goal.nt q.g.goal.rel (.slice aa2 q.g.goal.args.length ac2)) 27)).cell? ⟨w3.heap.size,3,none⟩ = some (sv q.g.goal.rel):=(cell_of (i:=3) xA2.out).trans rfl; have b4 : (w4.alloc (.cells (qcells (.slice ra2 q.g.rules.length rc2) q.g.goal.op q.g.goal.nt q.g.goal.rel (.slice aa2 q.g.goal.args.length ac2)) 27)).cell? ⟨w3.heap.size,4,none⟩ = some (.slice aa q.g.goal.args.length ac):=(cell_of (i:=4) xA2.out).trans rfl; have c0 : (w4.alloc (.cells (qcells (.slice ra2 q.g.rules.length rc2) q.g.goal.op q.g.goal.nt q.g.goal.rel (.slice aa2 q.g.goal.args.length ac2)) 27)).cell? ⟨w4.heap.size,0,none⟩ = some (.slice ra2 q.g.rules.length rc2):=(cell_of (i:=0) xB).trans rfl
      have c1 : (w4.alloc (.cells (qcells (.slice ra2 q.g.rules.length rc2) q.g.goal.op q.g.goal.nt q.g.goal.rel (.slice aa2 q.g.goal.args.length ac2)) 27)).cell? ⟨w4.heap.size,1,none⟩ = some (iv q.g.goal.op):=(cell_of (i:=1) xB).trans rfl; have c2 : (w4.alloc (.cells (qcells (.slice ra2 q.g.rules.length rc2) q.g.goal.op q.g.goal.nt q.g.goal.rel (.slice aa2 q.g.goal.args.length ac2)) 27)).cell? ⟨w4.heap.size,2,none⟩ = some (.bool q.g.goal.nt):=(cell_of (i:=2) xB).trans rfl; have c3 : (w4.alloc (.cells (qcells (.slice ra2 q.g.rules.length rc2) q.g.goal.op q.g.goal.nt q.g.goal.rel (.slice aa2 q.g.goal.args.length ac2)) 27)).cell? ⟨w4.heap.size,3,none⟩ = some (sv q.g.goal.rel):=(cell_of (i:=3) xB).trans rfl
      have c4 : (w4.alloc (.cells (qcells (.slice ra2 q.g.rules.length rc2) q.g.goal.op q.g.goal.nt q.g.goal.rel (.slice aa2 q.g.goal.args.length ac2)) 27)).cell? ⟨w4.heap.size,4,none⟩ = some (.slice aa2 q.g.goal.args.length ac2):=(cell_of (i:=4) xB).trans rfl; replace xB:=hid xB; clear hb4 hc4
      go_wp2_with fail
      refine hsm.out.mono ?_; rintro e w5 ⟨rfl,hb5⟩; have hA6:=hid (hA5.out.trans (hb5.mono hA5.out.size)); clear hb5 b0 b1 b2 b3 b4 c0 c1 c2 c3 c4
      go_wp2_with fail
      go_ret; exact ⟨rfl,hA6.out⟩
     | error y =>
      obtain ⟨e1,p1⟩:=y; obtain ⟨hne,p2,hr2E,hlo,hhi,hpb⟩:=hB; replace hq1 : e = .returned (.tuple #[.agg (qcells (.slice none 0 0) 0 false [] (.slice none 0 0)),iv e1,iv p1]):=hq1; subst hq1
      have n1 : (e1 == 0) = false:=by simpa using hne
      have n2 : (e1 != 0) = true:=by simp [bne,n1]
      have n3 : ¬ e1 = 0:=hne; have hc3 : Below wd.heap.size wd (w3.alloc (.cells (qcells (.slice none 0 0) 0 false [] (.slice none 0 0)) 27)):=hb3.alloc hb3.size _; have hA4:=hid (hA3.out.trans (hc3.mono hA3.out.size)); have xA:=hid (heap_alloc_new' w3 (.cells (qcells (.slice none 0 0) 0 false [] (.slice none 0 0)) 27)); have hp3:=hp2.out (w3.alloc (.cells (qcells (.slice none 0 0) 0 false [] (.slice none 0 0)) 27)) hA4.out; rw [hr2E] at hp3; replace hp3:=hid hp3; clear hb3 hc3
      go_wp2_with fail
      refine hp3.out.mono ?_; rintro e w4 ⟨hb4,hq2⟩; replace hq2 : e = .returned (.tuple #[.agg (qcells (.slice none 0 0) 0 false [] (.slice none 0 0)),iv e1,iv p2]):=hq2; subst hq2; have hc4 : Below (w3.alloc (.cells (qcells (.slice none 0 0) 0 false [] (.slice none 0 0)) 27)).heap.size (w3.alloc (.cells (qcells (.slice none 0 0) 0 false [] (.slice none 0 0)) 27)) (w4.alloc (.cells (qcells (.slice none 0 0) 0 false [] (.slice none 0 0)) 27)):=hb4.alloc hb4.size _; have hA5:=hid (hA4.out.trans (hc4.mono hA4.out.size)); have xA2:=hid (below_keep hc4 xA.out (lt_of_heap xA.out)); have xB:=heap_alloc_new' w4 (.cells (qcells (.slice none 0 0) 0 false [] (.slice none 0 0)) 27)
      have hsm:=hid (same_t q00 ⟨by decide,fun r hr=>(by cases hr),by decide,fun t ht=>(by cases ht)⟩ none none 0 0 none none 0 0 (fun _=>False) (fun _=>False) (w4.alloc (.cells (qcells (.slice none 0 0) 0 false [] (.slice none 0 0)) 27)) (SlR.nil _ _ _ _ _) (SlR.nil _ _ _ _ _) (SlR.nil _ _ _ _ _) (SlR.nil _ _ _ _ _)); have b0 : (w4.alloc (.cells (qcells (.slice none 0 0) 0 false [] (.slice none 0 0)) 27)).cell? ⟨w3.heap.size,0,none⟩ = some (.slice none 0 0):=(cell_of (i:=0) xA2.out).trans rfl; have b1 : (w4.alloc (.cells (qcells (.slice none 0 0) 0 false [] (.slice none 0 0)) 27)).cell? ⟨w3.heap.size,1,none⟩ = some (iv 0):=(cell_of (i:=1) xA2.out).trans rfl
      have b2 : (w4.alloc (.cells (qcells (.slice none 0 0) 0 false [] (.slice none 0 0)) 27)).cell? ⟨w3.heap.size,2,none⟩ = some (.bool false):=(cell_of (i:=2) xA2.out).trans rfl; have b3 : (w4.alloc (.cells (qcells (.slice none 0 0) 0 false [] (.slice none 0 0)) 27)).cell? ⟨w3.heap.size,3,none⟩ = some (sv []):=(cell_of (i:=3) xA2.out).trans rfl; have b4 : (w4.alloc (.cells (qcells (.slice none 0 0) 0 false [] (.slice none 0 0)) 27)).cell? ⟨w3.heap.size,4,none⟩ = some (.slice none 0 0):=(cell_of (i:=4) xA2.out).trans rfl; have c0 : (w4.alloc (.cells (qcells (.slice none 0 0) 0 false [] (.slice none 0 0)) 27)).cell? ⟨w4.heap.size,0,none⟩ = some (.slice none 0 0):=(cell_of (i:=0) xB).trans rfl
      have c1 : (w4.alloc (.cells (qcells (.slice none 0 0) 0 false [] (.slice none 0 0)) 27)).cell? ⟨w4.heap.size,1,none⟩ = some (iv 0):=(cell_of (i:=1) xB).trans rfl; have c2 : (w4.alloc (.cells (qcells (.slice none 0 0) 0 false [] (.slice none 0 0)) 27)).cell? ⟨w4.heap.size,2,none⟩ = some (.bool false):=(cell_of (i:=2) xB).trans rfl; have c3 : (w4.alloc (.cells (qcells (.slice none 0 0) 0 false [] (.slice none 0 0)) 27)).cell? ⟨w4.heap.size,3,none⟩ = some (sv []):=(cell_of (i:=3) xB).trans rfl; have c4 : (w4.alloc (.cells (qcells (.slice none 0 0) 0 false [] (.slice none 0 0)) 27)).cell? ⟨w4.heap.size,4,none⟩ = some (.slice none 0 0):=(cell_of (i:=4) xB).trans rfl; replace xB:=hid xB; clear hb4 hc4
      go_wp2_with fail
      refine hsm.out.mono ?_; rintro e w5 ⟨rfl,hb5⟩; have hA6:=hid (hA5.out.trans (hb5.mono hA5.out.size)); clear hb5 b0 b1 b2 b3 b4 c0 c1 c2 c3 c4; by_cases hpk : p1 < (k : Int)
      ·have kp : decide (p1 < (k : Int)) = true:=decide_eq_true hpk
       have e2 : p2 = p1:=hlo hpk; subst e2
       go_wp2_with fail
       go_ret; exact ⟨rfl,hA6.out⟩
      ·have kp : decide (p1 < (k : Int)) = false:=decide_eq_false hpk
       have e2 : p2 = p1 + 6:=hhi (by omega); subst e2
       have e3 : IntKind.i64.wrap (p1 + 6) = p1 + 6:=by rw [IntKind.wrap_i64]; omega
       go_wp2_with fail
       go_ret; exact ⟨rfl,hA6.out⟩
end Go.Proofs.YtbkdakbhagjkhaaDoor
