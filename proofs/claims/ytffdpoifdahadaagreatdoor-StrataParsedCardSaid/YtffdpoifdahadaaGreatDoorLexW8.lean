/- LexW8: LexT, LexW7, LexW7q, LexW8, in one text. -/
import Derived.Test.YtffdpoifdahadaaGreatDoorLexP
import Derived.Test.YtffdpoifdahadaaGreatDoorShelf
import Derived.Lib.AppendIntMem
import Derived.Test.YtffdpoifdahadaaGreatDoorLexW5
import Derived.Test.YtffdpoifdahadaaGreatDoorBldF
import Derived.Lib.ItoaLen
import Derived.Test.YtffdpoifdahadaaGreatDoorLexW6
set_option linter.unusedVariables false
set_option linter.unusedSimpArgs false
set_option maxHeartbeats 40000000
set_option maxRecDepth 100000
namespace Go.Proofs.YtffdpoifdahadaaGreatDoor
open Go.RowKit
open Go.Lib (hid itoa)
def Tab (w : World) : Prop := Lib.TabIs Tryz.prog w "internal/strconv.uint64pow10" .u64 Lib.pow10Tab
theorem Tab.below {w w':World} (h:Tab w) (hb:Below w.heap.size w w'):Tab w':=Lib.tabBelow_of_tabIs h w' hb
theorem fl (n:Int) (w:World) (h0:-9223372036854775808<=n) (h1:n<=9223372036854775807) (ht:Hid (Tab w)) :
  Calls Tryz.prog 97 #[iv n] w fun e w'=>e=.returned (sv (itoa n))/\Below w.heap.size w w':=by
 go_enter Tryz.func97,Tryz.ntmps97
 go_wp2_with fail
 refine (Tryz.strconv_Itoa n h0 h1 _ ht.out).mono ?_; rintro e w' ⟨rfl,k,os,rfl⟩
 go_wp2_with fail
 go_ret; exact ⟨rfl,Lib.below_grow _ _ (zM _) _ _⟩

end Go.Proofs.YtffdpoifdahadaaGreatDoor
namespace Go.Proofs.YtffdpoifdahadaaGreatDoor
open Go.RowKit
open Go.Lib (hid byteCells itoa)
structure GOk (G:aP) (B:Nat) (w:World):Prop where
 up:∀ k,w.heap.size<=k->G k
 low:∀ k,G k->B<=k
 ty:∀ k,B<=k->k < w.heap.size->¬ G k->∀ cur,w.heap[k]?≠some (.cells cur 5 (0,0))
 le:B<=w.heap.size
theorem GOk.fr {G S:aP} {B:Nat} {w w':World} (h:GOk G B w) (hf:Fr S w w') (ht:∀ k,S k->¬ G k->∀ cur,w'.heap[k]?≠some (.cells cur 5 (0,0))):GOk G B w':=by
 have hs:=hf.size; refine ⟨fun k hk=>h.up k (by omega),h.low,fun k h1 h2 h3=>?_,by have:=h.le; omega⟩; rcases Classical.em (S k) with hS | hS
 ·exact ht k hS h3
 ·have hk:k < w.heap.size:=by
   rcases Nat.lt_or_ge k w.heap.size with h4 | h4
   ·exact h4
   ·exact absurd (h.up k h4) h3
  rw [hf.block k hk hS]; exact h.ty k h1 hk h3
theorem GOk.self {G:aP} {B:Nat} {w w':World} (h:GOk G B w) (hf:Fr G w w'):GOk G B w':=h.fr hf (fun k h1 h2=>absurd h1 h2)
theorem GOk.below {G:aP} {B:Nat} {w w':World} (h:GOk G B w) (hf:Below w.heap.size w w'):GOk G B w':=h.self (Fr.of_below hf G)
theorem lI (G:aP) (B b:Nat) (l s:List UInt8) (w:World) (h:BldF G b l w) (hg:GOk G B w) (hlen:l.length+s.length<=140737488355328) :
  Calls Tryz.prog 43 #[.pointer (some ⟨b,0,none⟩),sv s] w fun e w'=>e=.returned (.tuple #[.int .i64 s.length,.nilIface])/\BldF G b (l++s) w'/\Fr G w w' :=
 sm G B b l s w h hg.up hg.low hg.ty hg.le hlen
theorem u_ (G:aP) (B b:Nat) (l:List UInt8) (c:UInt8) (w:World) (h:BldF G b l w) (hg:GOk G B w) (hlen:l.length<=140737488355327) :
  Calls Tryz.prog 85 #[.pointer (some ⟨b,0,none⟩),bv c] w fun e w'=>e=.returned .nilIface/\BldF G b (l++[c]) w'/\Fr G w w':=by
 obtain ⟨i0,hi,hz0,hz1,hz2⟩:=info_parts kf; have hcall:=hid (mS G b l w h); replace hg:=hid hg; clear h
 go_enter Tryz.func85,Tryz.ntmps85
 go_wp2_with fail
 refine hcall.out.mono ?_; rintro e w1 ⟨rfl,h1,hf1,v1,hv1⟩; obtain ⟨g1,p,v,g2,g3,g4,g5,g6⟩:=id h1
 have hpv:p=.pointer (some ⟨b,0,none⟩)/\v=v1:=by
  have:=g3.symm.trans hv1; simp at this; exact this
 obtain ⟨rfl,rfl⟩:=hpv; replace g4:w1.ownsRow B 5 1 v l.length (byteCells l):=aJ g4 (fun _ _=>rfl) (fun k hk=>hg.out.low k (g6 k hk)); have c0:w1.cell? ⟨b,0,none⟩=some (.pointer (some ⟨b,0,none⟩)):=(aj g3).trans rfl; have c1:w1.cell? ⟨b,1,none⟩=some v:=(aj g3).trans rfl; have hs1:=hf1.size; have hBw:=hg.out.le; have hlt0:=ae g3; have g4a:(w1.alloc (.cells #[bv c] 5)).ownsRow B 5 1 v l.length (byteCells l):=g4.alloc _; have g3a:(w1.alloc (.cells #[bv c] 5)).heap[b]? = some (.cells #[.pointer (some ⟨b,0,none⟩),v] 109 (0,0)):=(z7 _ _ _ hlt0).trans g3; have hfa:Fr G w (w1.alloc (.cells #[bv c] 5)):=hf1.alloc _; clear hcall hv1; replace h1:=hid h1; replace hf1:=hid hf1
 go_wp2_with (at_builtin; refine wpList_append_own _ rfl (.tmp 11) (.tmp 13) 107 rfl B 5 i0 (.int .u8 0) 1 1 Tryz.underlying107 hi hz0 hz1 hz2 rfl (by decide) _ _ _ rfl g4a ⟨w1.heap.size,0,none⟩ 1 1 [bv c] rfl rfl (nU _ _ _) (m8 rfl) (by unfold maxLen; omega) (by omega) (by simp; omega) ?_)
 intro v' w2 hown' hgrow hnil; have hlt:=ae g3a; have hb2:w2.heap[b]? = some (.cells #[.pointer (some ⟨b,0,none⟩),v] 109 (0,0)):=(hgrow.block b hlt (fun e=>g5 e.symm)).trans g3a; have d0:w2.cell? ⟨b,0,none⟩=some (.pointer (some ⟨b,0,none⟩)):=(aj hb2).trans rfl; have d1:w2.cell? ⟨b,1,none⟩=some v:=(aj hb2).trans rfl; have f1:w2.frozen? ⟨b,1,none⟩=false:=bX hb2
 have hown2:w2.ownsRow B 5 1 v' (l++[c]).length (byteCells (l++[c])):=by
  rw [zQ,Lib.byteCells_append]; exact hown'
 have hne:v'.ownBlock≠some b:=Lib.ownBlock_ne hown2 hb2 (by decide); have hF2:Fr G w w2:=hfa.grown hgrow (fun k hk=>Or.inl (g6 k hk))
 have hv'G:∀ k,v'.ownBlock=some k->G k:=fun k hk=>by
  rcases Classical.em (G k) with h | h
  ·exact h
  ·exfalso
   have hkB:=(hown2.lt k hk).1
   have hkw:k < w.heap.size:=Nat.lt_of_not_le fun h9=>h (hg.out.up k h9)
   have e1:w2.heap[k]? = (w1.alloc (.cells #[bv c] 5)).heap[k]?:=hgrow.block k (by simp; omega) (fun e=>h (g6 k e.symm)); have e2:(w1.alloc (.cells #[bv c] 5)).heap[k]? = w.heap[k]?:=hfa.block k hkw h; rcases hown2.2 with ⟨rfl,_⟩ | ⟨g,cap,cur,rfl,_,hg2,_⟩
   ·cases hk
   ·simp [Value.ownBlock] at hk
    subst hk; exact hg.out.ty _ hkB hkw h cur (by rw [← e2,← e1]; exact hg2)
 obtain ⟨ao,cap,hv',-,-⟩:=bp hown2; subst hv'; have hset:=aC (i:=1) hb2 (.slice ao (l++[c]).length cap)
 have hfin:=hid (show BldF G b (l++[c]) (w2.setCell ⟨b,1,none⟩ (.slice ao (l++[c]).length cap))/\Fr G w (w2.setCell ⟨b,1,none⟩ (.slice ao (l++[c]).length cap)) from
  ⟨⟨g1,_,_,Or.inr rfl,hset,aJ hown2 (fun k hk=>ak _ (fun e=>hne (e ▸ hk))) (fun _ _=>zW _),hne,hv'G⟩,hF2.setCell (Or.inl g1) _⟩)
 simp only [zQ] at hfin; clear hset hown2 hown' hgrow hF2 hv'G hne g4a g3a hfa
 go_wp2
 go_ret; exact ⟨rfl,hfin.out.1,hfin.out.2⟩
def db (t:Tk):Bool :=
 if t.kind=1 then iJ t.text && decide (t.n=0)
 else if t.kind=2 then decide (t.text=[]) && decide (0<=t.n) && decide (t.n<=9007199254740992)
 else if t.kind=3 then decide (t.text.length<=4096) && decide (t.n=0)
 else if t.kind=4 then eO t.text && decide (t.n=0)
 else false
theorem tV (t:Tk) (w:World) (hl:t.text.length<=140737488355328):Calls Tryz.prog 126 #[.agg #[iv t.kind,sv t.text,iv t.n,iv t.pos]] w fun e w'=>e=.returned (.bool (db t))/\Below w.heap.size w w':=by
 obtain ⟨kd,tx,n,ps⟩:=t; simp only at *; obtain ⟨res,hres⟩:∃ r,r=db ⟨kd,tx,n,ps⟩:=⟨_,rfl⟩; rw [← hres]; simp only [db] at hres; have hnm:=hid (fun W=>r_ tx W hl); have hmk:=hid (fun W=>mE tx W); have hbe:=hid ((zN w.heap.size w).alloc (zM _) (.cells #[iv kd,sv tx,iv n,iv ps] 95)); by_cases h1:kd=1
 ·subst h1
  rw [if_pos rfl] at hres; by_cases hn:n=0
  ·subst hn
   simp only [decide_true,Bool.and_true] at hres; cases hx:iJ tx <;> rw [hx] at hres hnm <;> clear hx <;> subst hres
   all_goals
    go_enter Tryz.func126,Tryz.ntmps126;go_wp2_with fail;refine (hnm.out _).mono ?_; rintro e w1 ⟨rfl,rfl⟩;go_wp2_with fail;go_ret; exact ⟨rfl,hbe.out⟩
  ·have q:(n == 0)=false:=by rw [beq_eq_false_iff_ne]; exact hn
   rw [show decide (n=0)=false from zO hn,Bool.and_false] at hres; subst hres; cases hx:iJ tx <;> rw [hx] at hnm <;> clear hx
   all_goals
    go_enter Tryz.func126,Tryz.ntmps126;go_wp2_with fail;refine (hnm.out _).mono ?_; rintro e w1 ⟨rfl,rfl⟩;go_wp2_with fail;go_ret; exact ⟨rfl,hbe.out⟩
 ·rw [if_neg h1] at hres
  have b1:(kd == 1)=false:=by rw [beq_eq_false_iff_ne]; exact h1
  by_cases h2:kd=2
  ·subst h2
   rw [if_pos rfl] at hres; rcases tx with _ | ⟨c,r⟩
   ·by_cases hn1:0<=n
    ·by_cases hn2:n<=9007199254740992
     ·have d1:decide (0<=n)=true:=zP hn1
      have d2:decide (n<=9007199254740992)=true:=zP hn2; simp only [d1,d2,decide_true,Bool.and_true] at hres; subst hres;go_enter Tryz.func126,Tryz.ntmps126;go_wp2_with fail;go_ret; exact ⟨rfl,hbe.out⟩
     ·have d1:decide (0<=n)=true:=zP hn1
      have d2:decide (n<=9007199254740992)=false:=zO hn2; simp only [d1,d2,Bool.and_false] at hres; subst hres;go_enter Tryz.func126,Tryz.ntmps126;go_wp2_with fail;go_ret; exact ⟨rfl,hbe.out⟩
    ·have d1:decide (0<=n)=false:=zO hn1
     simp only [d1,Bool.and_false,Bool.false_and] at hres; subst hres;go_enter Tryz.func126,Tryz.ntmps126;go_wp2_with fail;go_ret; exact ⟨rfl,hbe.out⟩
   ·have hs1:((c::r) == ([]:List UInt8))=false:=rfl
    (have hs2:¬ (c::r)=([]:List UInt8):=by simp);rw [show decide ((c::r)=([]:List UInt8))=false from zO hs2,Bool.false_and,Bool.false_and] at hres; subst hres;go_enter Tryz.func126,Tryz.ntmps126;go_wp2_with fail;go_ret; exact ⟨rfl,hbe.out⟩
  ·rw [if_neg h2] at hres
   have b2:(kd == 2)=false:=by rw [beq_eq_false_iff_ne]; exact h2
   by_cases h3:kd=3
   ·subst h3
    rw [if_pos rfl] at hres; by_cases hl4:tx.length<=4096
    ·have d1:decide (tx.length<=4096)=true:=zP hl4
     have d2:decide ((tx.length:Int)<=4096)=true:=zP (by omega); by_cases hn:n=0
     ·subst hn
      simp only [d1,decide_true,Bool.and_true] at hres; subst hres;go_enter Tryz.func126,Tryz.ntmps126;go_wp2_with fail;go_ret; exact ⟨rfl,hbe.out⟩
     ·have q:(n == 0)=false:=by rw [beq_eq_false_iff_ne]; exact hn
      rw [show decide (n=0)=false from zO hn,Bool.and_false] at hres; subst hres;go_enter Tryz.func126,Tryz.ntmps126;go_wp2_with fail;go_ret; exact ⟨rfl,hbe.out⟩
    ·have d1:decide (tx.length<=4096)=false:=zO hl4
     have d2:decide ((tx.length:Int)<=4096)=false:=zO (by omega);(have d3:¬ ((tx.length:Int)<=4096):=by omega);rw [d1,Bool.false_and] at hres; subst hres;go_enter Tryz.func126,Tryz.ntmps126;go_wp2_with fail;go_ret; exact ⟨rfl,hbe.out⟩
   ·rw [if_neg h3] at hres
    have b3:(kd == 3)=false:=by rw [beq_eq_false_iff_ne]; exact h3
    by_cases h4:kd=4
    ·subst h4
     rw [if_pos rfl] at hres; by_cases hn:n=0
     ·subst hn
      simp only [decide_true,Bool.and_true] at hres; cases hx:eO tx <;> rw [hx] at hres hmk <;> clear hx <;> subst hres
      all_goals
       go_enter Tryz.func126,Tryz.ntmps126;go_wp2_with fail;refine (hmk.out _).mono ?_; rintro e w1 ⟨rfl,rfl⟩;go_wp2_with fail;go_ret; exact ⟨rfl,hbe.out⟩
     ·have q:(n == 0)=false:=by rw [beq_eq_false_iff_ne]; exact hn
      rw [show decide (n=0)=false from zO hn,Bool.and_false] at hres; subst hres; cases hx:eO tx <;> rw [hx] at hmk <;> clear hx
      all_goals
       go_enter Tryz.func126,Tryz.ntmps126;go_wp2_with fail;refine (hmk.out _).mono ?_; rintro e w1 ⟨rfl,rfl⟩;go_wp2_with fail;go_ret; exact ⟨rfl,hbe.out⟩
    ·rw [if_neg h4] at hres
     (have b4:(kd == 4)=false:=by rw [beq_eq_false_iff_ne]; exact h4);subst hres;go_enter Tryz.func126,Tryz.ntmps126;go_wp2_with fail;go_ret; exact ⟨rfl,hbe.out⟩
end Go.Proofs.YtffdpoifdahadaaGreatDoor
namespace Go.Proofs.YtffdpoifdahadaaGreatDoor
open Go.RowKit
open Go.Lib (hid byteCells itoa)
def ju (c:UInt8):List UInt8:=if c=10 then [92,110] else if c=9 then [92,116] else if c=34\/c=92 then [92,c] else [c]
def dF (s:List UInt8):List UInt8:=(s.map ju).flatten
def dc (s:List UInt8):List UInt8:=34::(dF s++[34])
theorem wY (c:UInt8):(ju c).length<=2:=by unfold ju; split; simp; split; simp; split <;> simp
theorem iM (s:List UInt8):(dF s).length<=2 * s.length:=by
 induction s with
 | nil=>simp [dF]
 | cons c s ih =>
  have:=wY c; simp only [dF,List.map_cons,List.flatten_cons,zQ,zT] at ih ⊢; omega
theorem uE {s:List UInt8} {k:Nat} {c:UInt8} (hc:s[k]? = some c):dF (s.take (k+1))=dF (s.take k)++ju c:=by
 unfold dF; rw [List.take_add_one,hc]; simp
theorem nJ (G:aP) (B b:Nat) (l s:List UInt8) (w:World) (h:BldF G b l w) (hg:GOk G B w) (hlen:l.length+2 * s.length+10<=140737488355327) :
  Calls Tryz.prog 127 #[pt b,sv s] w fun e w'=>e=.returned (.tuple #[])/\BldF G b (l++dc s) w'/\Fr G w w':=by
 have hwb:=hid (fun W L c h g q=>u_ G B b L c W h g q); have hwr:=hid (fun W L c h g q=>lI G B b L c W h g q); replace h:=hid h; replace hg:=hid hg
 go_enter Tryz.func127,Tryz.ntmps127
 go_wp2_with fail
 refine (hwb.out w l 34 h.out hg.out (by omega)).mono ?_; rintro e w1 ⟨rfl,hb1,hf1⟩; replace hb1:=hid hb1; replace hf1:=hid hf1; clear h
 go_wp2_with fail
 go_loopw [10] (fun z wr=>∃ k:Nat,z=.int .i64 k/\k<=s.length/\Hid (BldF G b (l++(34::dF (s.take k))) wr)/\Hid (Fr G w wr)) (fun z _=>s.length - (intOf z).toNat)
 case atStart=>exact ⟨0,rfl,zW _,hb1,hf1⟩
 case round =>
  clear hb1 hf1; obtain ⟨k,rfl,hk,hb,hf⟩:=hrel; have hel:=iM (s.take k)
  have htl:(s.take k).length<=s.length:=by rw [Ah]; omega
  by_cases hlt:k < s.length
  ·have q1:decide ((k:Int) < (s.length:Int))=true:=zP (by omega)
   have q1i:(k:Int) < (s.length:Int):=by omega
   obtain ⟨c,hc⟩:∃ c,s[k]? = some c:=⟨_,zR hlt⟩; have hix:=eP (P:=Tryz.prog) 9 (by kernel_rfl) s k c hc; have hes:=uE hc; have hg1:=hg.out.self hf.out
   have hL:(l++(34::dF (s.take k))).length<=140737488355320:=by simp; omega
   clear hc hel htl; obtain ⟨pre1,hp1⟩:∃ p,p=s.take (k+1):=⟨_,rfl⟩; rw [← hp1] at hes; replace hp1:=hid hp1; generalize s.take k=pre at *; by_cases c1:c=10
   ·subst c1
    (have hee:ju 10=[92,110]:=by decide);rw [hee] at hes; replace hes:=hid hes;go_wp2_with fail;refine (hwr.out _ _ [92,110] hb.out hg1 (by simp at hL ⊢; omega)).mono ?_; rintro e w2 ⟨rfl,hb2,hf2⟩; have hb3:=hid (show BldF G b (l++(34::dF (s.take (k+1)))) w2 by rw [← hp1.out,hes.out]; simpa using hb2); have hf3:=hid (hf.out.trans hf2); clear hb2 hf2;go_wp2_with fail;refine ⟨?_,by simp [intOf]; omega⟩
    repeat (first | exact ⟨⟨k+1,rfl,by omega,hb3,hf3⟩,rfl⟩ | exact ⟨k+1,rfl,by omega,hb3,hf3⟩ | apply Exists.intro)
   ·obtain ⟨a1,a1',a1''⟩:((c.toNat:Int) == 10)=false/\¬ ((c.toNat:Int)=10)/\¬ c.toNat=10:=bn c 10 10 rfl c1
    by_cases c2:c=9
    ·subst c2
     (have hee:ju 9=[92,116]:=by decide);rw [hee] at hes; replace hes:=hid hes;go_wp2_with fail;refine (hwr.out _ _ [92,116] hb.out hg1 (by simp at hL ⊢; omega)).mono ?_; rintro e w2 ⟨rfl,hb2,hf2⟩; have hb3:=hid (show BldF G b (l++(34::dF (s.take (k+1)))) w2 by rw [← hp1.out,hes.out]; simpa using hb2); have hf3:=hid (hf.out.trans hf2); clear hb2 hf2;go_wp2_with fail;refine ⟨?_,by simp [intOf]; omega⟩
     repeat (first | exact ⟨⟨k+1,rfl,by omega,hb3,hf3⟩,rfl⟩ | exact ⟨k+1,rfl,by omega,hb3,hf3⟩ | apply Exists.intro)
    ·obtain ⟨a2,a2',a2''⟩:((c.toNat:Int) == 9)=false/\¬ ((c.toNat:Int)=9)/\¬ c.toNat=9:=bn c 9 9 rfl c2
     by_cases c3:c=34\/c=92
     ·have hee:ju c=[92,c]:=by unfold ju; rw [if_neg c1,if_neg c2,if_pos c3]
      rw [hee] at hes; replace hes:=hid hes; rcases c3 with rfl | rfl
      ·go_wp2_with fail
       refine (hwb.out _ _ 92 hb.out hg1 (by omega)).mono ?_; rintro e w2 ⟨rfl,hb2,hf2⟩; have hg2:=hg1.self hf2; have hf3:=hid (hf.out.trans hf2); clear hf2; replace hb2:=hid hb2;go_wp2_with fail;refine (hwb.out _ _ 34 hb2.out hg2 (by rw [zQ]; simp at hL ⊢; omega)).mono ?_; rintro e w3 ⟨rfl,hb3',hf3'⟩; have hb3:=hid (show BldF G b (l++(34::dF (s.take (k+1)))) w3 by rw [← hp1.out,hes.out]; simpa using hb3'); have hf4:=hid (hf3.out.trans hf3'); clear hb3' hf3' hb2;go_wp2_with fail;refine ⟨?_,by simp [intOf]; omega⟩
       repeat (first | exact ⟨⟨k+1,rfl,by omega,hb3,hf4⟩,rfl⟩ | exact ⟨k+1,rfl,by omega,hb3,hf4⟩ | apply Exists.intro)
      ·go_wp2_with fail
       refine (hwb.out _ _ 92 hb.out hg1 (by omega)).mono ?_; rintro e w2 ⟨rfl,hb2,hf2⟩; have hg2:=hg1.self hf2; have hf3:=hid (hf.out.trans hf2); clear hf2; replace hb2:=hid hb2;go_wp2_with fail;refine (hwb.out _ _ 92 hb2.out hg2 (by rw [zQ]; simp at hL ⊢; omega)).mono ?_; rintro e w3 ⟨rfl,hb3',hf3'⟩; have hb3:=hid (show BldF G b (l++(34::dF (s.take (k+1)))) w3 by rw [← hp1.out,hes.out]; simpa using hb3'); have hf4:=hid (hf3.out.trans hf3'); clear hb3' hf3' hb2;go_wp2_with fail;refine ⟨?_,by simp [intOf]; omega⟩
       repeat (first | exact ⟨⟨k+1,rfl,by omega,hb3,hf4⟩,rfl⟩ | exact ⟨k+1,rfl,by omega,hb3,hf4⟩ | apply Exists.intro)
     ·have hee:ju c=[c]:=by unfold ju; rw [if_neg c1,if_neg c2,if_neg c3]
      rw [hee] at hes; replace hes:=hid hes; obtain ⟨a3,a3',a3''⟩:((c.toNat:Int) == 34)=false/\¬ ((c.toNat:Int)=34)/\¬ c.toNat=34:=bn c 34 34 rfl (fun e=>c3 (Or.inl e)); obtain ⟨a4,a4',a4''⟩:((c.toNat:Int) == 92)=false/\¬ ((c.toNat:Int)=92)/\¬ c.toNat=92:=bn c 92 92 rfl (fun e=>c3 (Or.inr e));go_wp2_with fail;refine (hwb.out _ _ c hb.out hg1 (by omega)).mono ?_; rintro e w2 ⟨rfl,hb2,hf2⟩; have hb3:=hid (show BldF G b (l++(34::dF (s.take (k+1)))) w2 by rw [← hp1.out,hes.out]; simpa using hb2); have hf3:=hid (hf.out.trans hf2); clear hb2 hf2;go_wp2_with fail;refine ⟨?_,by simp [intOf]; omega⟩
      repeat (first | exact ⟨⟨k+1,rfl,by omega,hb3,hf3⟩,rfl⟩ | exact ⟨k+1,rfl,by omega,hb3,hf3⟩ | apply Exists.intro)
  ·have hks:k=s.length:=by omega
   subst hks; rw [List.take_length] at hb hel; have hg1:=hg.out.self hf.out; clear htl hlt
   go_wp2_with fail
   refine (hwb.out _ _ 34 hb.out hg1 (by rw [zQ]; simp; omega)).mono ?_; rintro e w2 ⟨rfl,hb2,hf2⟩; have hb3:=hid (show BldF G b (l++dc s) w2 by unfold dc; simpa using hb2); have hf3:=hid (hf.out.trans hf2); clear hb2 hf2
   go_wp2_with fail
   go_end0
   exact ⟨rfl,hb3.out,hf3.out⟩
end Go.Proofs.YtffdpoifdahadaaGreatDoor
namespace Go.Proofs.YtffdpoifdahadaaGreatDoor
open Go.RowKit
open Go.Lib (hid byteCells itoa)
def tkW (t:Tk):List UInt8:=if t.kind=2 then itoa t.n else if t.kind=3 then dc t.text else t.text
def wrF (b:Bool):List Tk->List UInt8
 | []=>[]
 | t::r=>(if b then [32] else [])++tkW t++wrF true r
def er (l:List Tk):List UInt8:=if l.all db then wrF false l else []
def TkB (t:Tk):Prop:=t.text.length<=40000/\-9223372036854775808<=t.n/\t.n<=9223372036854775807
theorem y_ {g o:Nat} {ds:List Value} {x:Tk} {S:aP} {w:World} (hR:TkR S w x ds) (h:∀ j u,ds[j]? = some u->w.cell? ⟨g,o+j,none⟩=some u) :
  w.cell? ⟨g,o,none⟩=some (iv x.kind)/\w.cell? ⟨g,o+1,none⟩=some (sv x.text)/\w.cell? ⟨g,o+2,none⟩=some (iv x.n)/\w.cell? ⟨g,o+3,none⟩=some (iv x.pos):=by
 subst hR; exact ⟨h 0 _ rfl,h 1 _ rfl,h 2 _ rfl,h 3 _ rfl⟩
theorem uT {l:List Tk} {k:Nat} {x:Tk} (hx:l[k]? = some x) (p:Tk->Bool):(l.take (k+1)).all p=((l.take k).all p && p x):=by
 rw [List.take_add_one,hx]; simp [List.all_append]
theorem so {l:List Tk} {k:Nat} {x:Tk} (hx:l[k]? = some x) {p:Tk->Bool} (h:p x=false):l.all p=false:=by
 rw [Bool.eq_false_iff]; intro h2; rw [List.all_eq_true] at h2; have:=h2 x (zU hx); rw [h] at this; cases this
theorem xd {l:List Tk} {k:Nat} {x:Tk} (h:l[k]? = some x):l.drop k=x::l.drop (k+1):=by
 obtain ⟨hk,rfl⟩:=List.getElem?_eq_some_iff.1 h; exact Ac hk
theorem fR (n:Int) (h0:-9223372036854775808<=n) (h1:n<=9223372036854775807):(itoa n).length<=40:=zV (Lib.itoa_length_le n h0 h1) (by decide)
theorem tq (l:List Tk) (v:Value) (S:aP) (w:World) (hl:l.length<=40000) (hb:∀ t∈l,TkB t) (hr:SlR 4 TkR S w l v) (ht:Hid (Tab w)) :
  Calls Tryz.prog 122 #[v] w fun e w'=>e=.returned (sv (er l))/\Below w.heap.size w w':=by
 obtain ⟨a,cap,rfl,-⟩:=hr.slice; obtain ⟨res,hres⟩:∃ r,r=er l:=⟨_,rfl⟩; rw [← hres]; replace hres:=hid hres; replace hr:=hid hr; replace hb:=hid hb; have hB0:=hid (BldF.new (fun q=>w.heap.size<=q) w (zM _)); have hbe:=hid ((zN w.heap.size w).alloc (zM _) (.cells #[.pointer none,.slice none 0 0] 109))
 go_enter Tryz.func122,Tryz.ntmps122
 go_wp2_with fail
 generalize (w.alloc (.cells #[.pointer none,.slice none 0 0] 109))=w0 at *
 go_loopw [8] (fun z wr=>∃ (k:Nat) (acc:List UInt8),z=.int .i64 k/\k<=l.length/\acc.length<=k * 80100/\Hid ((l.take k).all db=true)/\Hid (acc++wrF (decide (0 < k)) (l.drop k)=wrF false l)/\Hid (BldF (fun q=>w.heap.size<=q) w.heap.size acc wr)/\Hid (Below w.heap.size w wr)) (fun z _=>l.length - (intOf z).toNat)
 case atStart=>exact ⟨0,[],rfl,zW _,by simp,hid rfl,hid rfl,hB0,hbe⟩
 case round =>
  clear hB0 hbe; obtain ⟨k,acc,rfl,hk,hac,hall,hw,hB,hbe⟩:=hrel; by_cases hlt:k < l.length
  ·have q1:decide ((k:Int) < (l.length:Int))=true:=zP (by omega)
   have q1i:(k:Int) < (l.length:Int):=by omega
   obtain ⟨x,hx⟩:∃ x,l[k]? = some x:=⟨_,zR hlt⟩; have hbx:=hb.out x (zU hx); have hrr:SlR 4 TkR S wr l (.slice a l.length cap):=hr.out.move cY (fun q hq hs=>⟨hs,hbe.out.block q hq⟩); obtain ⟨g,o,ds,hidx,hS,hg,hcl,hR⟩:=hrr.at (P:=Tryz.prog) (t:=88) (by kernel_rfl) (fun _=>by kernel_rfl) hx; obtain ⟨d0,d1,d2,d3⟩:=y_ hR hcl; have hri:=hid (fun W=>tV x W (by have:=hbx.1; omega)); clear hcl hR hrr hS; obtain ⟨tb,htb⟩:∃ tb,tb=wr.heap.size:=⟨_,rfl⟩
   have hT1:TR tb x (wr.alloc (.cells #[iv x.kind,sv x.text,iv x.n,iv x.pos] 95)):=by rw [htb]; exact af _ _
   have hb1:Below wr.heap.size wr (wr.alloc (.cells #[iv x.kind,sv x.text,iv x.n,iv x.pos] 95)):=(zN _ _).alloc (zM _) _; have hB1:=(hB.out.mono (H:=fun q=>w.heap.size<=q/\q≠tb) (fun q hq h=>⟨h,by omega⟩)).below hb1; have hbe1:=hbe.out.alloc hbe.out.size (.cells #[iv x.kind,sv x.text,iv x.n,iv x.pos] 95); have hdx:=xd hx; have hsz:=hbe.out.size; replace htb:=hid htb
   go_wp2_with fail
   rw [← htb.out]; generalize wr.alloc (.cells #[iv x.kind,sv x.text,iv x.n,iv x.pos] 95)=w1 at *; refine (hri.out _).mono ?_; rintro e w2 ⟨rfl,hb2⟩; have hT:=hid (hT1.below hb2); have hB2:=hid (hB1.below hb2); have hbb:=hid (hbe1.trans (hb2.mono hbe1.size))
   have hG:=hid (show GOk (fun q=>w.heap.size<=q/\q≠tb) w.heap.size w2 from
    ⟨fun q hq=>⟨zV hbb.out.size hq,by have:=ae hT.out; omega⟩,fun q h=>h.1,fun q h1 h2 h3 cur h4=>by
     have:q=tb:=Classical.byContradiction (fun e=>h3 ⟨h1,e⟩); subst this; have h5:=hT.out.symm.trans h4
     simp at h5,hbb.out.size⟩)
   clear hT1 hB1 hb1 hbe1 hb2 hri d0 d1 d2 d3 hidx hg
   cases hrx:db x with
   | false =>
    have hv:=hid (show res=[] by rw [hres.out]; unfold er; rw [so hx hrx]; rfl);go_wp2_with fail;go_ret; exact ⟨by rw [hv.out]; rfl,hbb.out⟩
   | true =>
    have hall2:=hid (show (l.take (k+1)).all db=true by rw [uT hx,hall.out,hrx]; rfl); obtain ⟨acc2,hacc2⟩:∃ acc2,acc2=(acc++(if decide (0 < k) then [32] else []))++tkW x:=⟨_,rfl⟩
    have hw2:=hid (show acc2++wrF (decide (0 < k+1)) (l.drop (k+1))=wrF false l by
     rw [← hw.out,hdx,hacc2,show decide (0 < k+1)=true from zP (by omega)]; simp only [wrF,Ad])
    clear hrx hw hdx hall; by_cases h0:0 < k
    ·have q0:decide ((k:Int) > 0)=true:=zP (by omega)
     (have q0i:(0:Int) < (k:Int):=by omega);rw [show decide (0 < k)=true from zP h0,if_pos rfl] at hacc2;go_wp2_with fail;refine (u_ _ _ _ acc 32 w2 hB2.out hG.out (by omega)).mono ?_; rintro e w3 ⟨rfl,hB3,hF3⟩; replace hB3:=hid hB3; replace hF3:=hid hF3;(have hac3:(acc++[32]).length<=3204000001:=by rw [zQ]; simp only [List.length_singleton]; omega);(have hac4:(acc++[32]).length=acc.length+1:=by simp);generalize acc++[32]=acc1 at *; clear hB2; have hT3:=hT.out.fr hF3.out (fun h=>h.2 rfl); obtain ⟨t0,t1,t2,t3⟩:=hT3.cell; have hG3:=hG.out.self hF3.out; have hb3:=hbb.out.trans (hF3.out.to_below hbb.out.size (fun q hq h=>by have:=h.1; omega)); by_cases k2:x.kind=2
     ·have htk:tkW x=itoa x.n:=by unfold tkW; rw [if_pos k2]
      have hil:=fR x.n hbx.2.1 hbx.2.2; have htx:=hid (fl x.n w3 hbx.2.1 hbx.2.2 (hid (ht.out.below hb3)));(have hal2:acc2.length<=(k+1) * 80100:=by rw [hacc2,htk]; simp only [zQ]; omega);(have q2:(x.kind == 2)=true:=by rw [beq_iff_eq]; exact k2);go_wp2_with fail;refine htx.out.mono ?_; rintro e w4 ⟨rfl,hb4⟩; have hB4:=hB3.out.below hb4; have hG4:=hG3.below hb4;go_wp2_with fail;refine (lI _ _ _ _ (itoa x.n) w4 hB4 hG4 (by omega)).mono ?_; rintro e w5 ⟨rfl,hB5,hF5⟩; have hb4b:=hb3.trans (hb4.mono hb3.size); have hbx2:=hb4b.trans (hF5.to_below hb4b.size (fun q hq h=>by have:=h.1; omega));(have hBx:BldF (fun q=>w.heap.size<=q/\q≠tb) w.heap.size acc2 w5:=by rw [hacc2,htk]; exact hB5);clear hB4 hG4 hB5 hF5 hb4 hb4b hT3 hB3 hG3 hb3 hil htx; have hBf:=hid (show BldF (fun q=>w.heap.size<=q) w.heap.size acc2 w5 from (hBx.mono (fun q _ h=>h.1))); have hbf:=hid hbx2; clear hBx hbx2;go_wp2_with fail;refine ⟨?_,by simp [intOf]; omega⟩
      repeat (first | exact ⟨⟨k+1,acc2,rfl,by omega,hal2,hall2,hw2,hBf,hbf⟩,rfl⟩ | exact ⟨k+1,acc2,rfl,by omega,hal2,hall2,hw2,hBf,hbf⟩ | apply Exists.intro)
     ·have q2:(x.kind == 2)=false:=by rw [beq_eq_false_iff_ne]; exact k2
      by_cases k3:x.kind=3
      ·have htk:tkW x=dc x.text:=by unfold tkW; rw [if_neg k2,if_pos k3]
       (have hql:(dc x.text).length<=2 * x.text.length+2:=by unfold dc; have:=iM x.text; simp; omega);(have hal2:acc2.length<=(k+1) * 80100:=by rw [hacc2,htk]; simp only [zQ]; have:=hbx.1; omega);(have q3:(x.kind == 3)=true:=by rw [beq_iff_eq]; exact k3);go_wp2_with fail;refine (nJ _ _ _ _ x.text w3 hB3.out hG3 (by have:=hbx.1; omega)).mono ?_; rintro e w5 ⟨rfl,hB5,hF5⟩; have hbx2:=hb3.trans (hF5.to_below hb3.size (fun q hq h=>by have:=h.1; omega));(have hBx:BldF (fun q=>w.heap.size<=q/\q≠tb) w.heap.size acc2 w5:=by rw [hacc2,htk]; exact hB5);clear hB5 hF5 hT3 hB3 hG3 hb3; have hBf:=hid (show BldF (fun q=>w.heap.size<=q) w.heap.size acc2 w5 from (hBx.mono (fun q _ h=>h.1))); have hbf:=hid hbx2; clear hBx hbx2;go_wp2_with fail;refine ⟨?_,by simp [intOf]; omega⟩
       repeat (first | exact ⟨⟨k+1,acc2,rfl,by omega,hal2,hall2,hw2,hBf,hbf⟩,rfl⟩ | exact ⟨k+1,acc2,rfl,by omega,hal2,hall2,hw2,hBf,hbf⟩ | apply Exists.intro)
      ·have htk:tkW x=x.text:=by unfold tkW; rw [if_neg k2,if_neg k3]
       (have hal2:acc2.length<=(k+1) * 80100:=by rw [hacc2,htk]; simp only [zQ]; have:=hbx.1; omega);(have q3:(x.kind == 3)=false:=by rw [beq_eq_false_iff_ne]; exact k3);go_wp2_with fail;refine (lI _ _ _ _ x.text w3 hB3.out hG3 (by have:=hbx.1; omega)).mono ?_; rintro e w5 ⟨rfl,hB5,hF5⟩; have hbx2:=hb3.trans (hF5.to_below hb3.size (fun q hq h=>by have:=h.1; omega));(have hBx:BldF (fun q=>w.heap.size<=q/\q≠tb) w.heap.size acc2 w5:=by rw [hacc2,htk]; exact hB5);clear hB5 hF5 hT3 hB3 hG3 hb3; have hBf:=hid (show BldF (fun q=>w.heap.size<=q) w.heap.size acc2 w5 from (hBx.mono (fun q _ h=>h.1))); have hbf:=hid hbx2; clear hBx hbx2;go_wp2_with fail;refine ⟨?_,by simp [intOf]; omega⟩
       repeat (first | exact ⟨⟨k+1,acc2,rfl,by omega,hal2,hall2,hw2,hBf,hbf⟩,rfl⟩ | exact ⟨k+1,acc2,rfl,by omega,hal2,hall2,hw2,hBf,hbf⟩ | apply Exists.intro)
    ·have hk0:k=0:=by omega
     have q0:decide ((k:Int) > 0)=false:=zO (by omega);(have q0i:¬ (0:Int) < (k:Int):=by omega);rw [show decide (0 < k)=false from zO h0,if_neg (by decide),List.append_nil] at hacc2; have hF3:=hid (Fr.refl (fun q=>w.heap.size<=q/\q≠tb) w2); have hB3:=hB2;(have hac3:acc.length<=3204000001:=by omega);obtain ⟨w3,hw3⟩:∃ w3,w3=w2:=⟨_,rfl⟩; rw [← hw3] at hT hB2 hbb hG hF3 hB3; rw [← hw3]; clear hw3 hB2 hk0; have hT3:=hT.out.fr hF3.out (fun h=>h.2 rfl); obtain ⟨t0,t1,t2,t3⟩:=hT3.cell; have hG3:=hG.out.self hF3.out; have hb3:=hbb.out.trans (hF3.out.to_below hbb.out.size (fun q hq h=>by have:=h.1; omega)); by_cases k2:x.kind=2
     ·have htk:tkW x=itoa x.n:=by unfold tkW; rw [if_pos k2]
      have hil:=fR x.n hbx.2.1 hbx.2.2; have htx:=hid (fl x.n w3 hbx.2.1 hbx.2.2 (hid (ht.out.below hb3)));(have hal2:acc2.length<=(k+1) * 80100:=by rw [hacc2,htk]; simp only [zQ]; omega);(have q2:(x.kind == 2)=true:=by rw [beq_iff_eq]; exact k2);go_wp2_with fail;refine htx.out.mono ?_; rintro e w4 ⟨rfl,hb4⟩; have hB4:=hB3.out.below hb4; have hG4:=hG3.below hb4;go_wp2_with fail;refine (lI _ _ _ _ (itoa x.n) w4 hB4 hG4 (by omega)).mono ?_; rintro e w5 ⟨rfl,hB5,hF5⟩; have hb4b:=hb3.trans (hb4.mono hb3.size); have hbx2:=hb4b.trans (hF5.to_below hb4b.size (fun q hq h=>by have:=h.1; omega));(have hBx:BldF (fun q=>w.heap.size<=q/\q≠tb) w.heap.size acc2 w5:=by rw [hacc2,htk]; exact hB5);clear hB4 hG4 hB5 hF5 hb4 hb4b hT3 hB3 hG3 hb3 hil htx; have hBf:=hid (show BldF (fun q=>w.heap.size<=q) w.heap.size acc2 w5 from (hBx.mono (fun q _ h=>h.1))); have hbf:=hid hbx2; clear hBx hbx2;go_wp2_with fail;refine ⟨?_,by simp [intOf]; omega⟩
      repeat (first | exact ⟨⟨k+1,acc2,rfl,by omega,hal2,hall2,hw2,hBf,hbf⟩,rfl⟩ | exact ⟨k+1,acc2,rfl,by omega,hal2,hall2,hw2,hBf,hbf⟩ | apply Exists.intro)
     ·have q2:(x.kind == 2)=false:=by rw [beq_eq_false_iff_ne]; exact k2
      by_cases k3:x.kind=3
      ·have htk:tkW x=dc x.text:=by unfold tkW; rw [if_neg k2,if_pos k3]
       (have hql:(dc x.text).length<=2 * x.text.length+2:=by unfold dc; have:=iM x.text; simp; omega);(have hal2:acc2.length<=(k+1) * 80100:=by rw [hacc2,htk]; simp only [zQ]; have:=hbx.1; omega);(have q3:(x.kind == 3)=true:=by rw [beq_iff_eq]; exact k3);go_wp2_with fail;refine (nJ _ _ _ _ x.text w3 hB3.out hG3 (by have:=hbx.1; omega)).mono ?_; rintro e w5 ⟨rfl,hB5,hF5⟩; have hbx2:=hb3.trans (hF5.to_below hb3.size (fun q hq h=>by have:=h.1; omega));(have hBx:BldF (fun q=>w.heap.size<=q/\q≠tb) w.heap.size acc2 w5:=by rw [hacc2,htk]; exact hB5);clear hB5 hF5 hT3 hB3 hG3 hb3; have hBf:=hid (show BldF (fun q=>w.heap.size<=q) w.heap.size acc2 w5 from (hBx.mono (fun q _ h=>h.1))); have hbf:=hid hbx2; clear hBx hbx2;go_wp2_with fail;refine ⟨?_,by simp [intOf]; omega⟩
       repeat (first | exact ⟨⟨k+1,acc2,rfl,by omega,hal2,hall2,hw2,hBf,hbf⟩,rfl⟩ | exact ⟨k+1,acc2,rfl,by omega,hal2,hall2,hw2,hBf,hbf⟩ | apply Exists.intro)
      ·have htk:tkW x=x.text:=by unfold tkW; rw [if_neg k2,if_neg k3]
       (have hal2:acc2.length<=(k+1) * 80100:=by rw [hacc2,htk]; simp only [zQ]; have:=hbx.1; omega);(have q3:(x.kind == 3)=false:=by rw [beq_eq_false_iff_ne]; exact k3);go_wp2_with fail;refine (lI _ _ _ _ x.text w3 hB3.out hG3 (by have:=hbx.1; omega)).mono ?_; rintro e w5 ⟨rfl,hB5,hF5⟩; have hbx2:=hb3.trans (hF5.to_below hb3.size (fun q hq h=>by have:=h.1; omega));(have hBx:BldF (fun q=>w.heap.size<=q/\q≠tb) w.heap.size acc2 w5:=by rw [hacc2,htk]; exact hB5);clear hB5 hF5 hT3 hB3 hG3 hb3; have hBf:=hid (show BldF (fun q=>w.heap.size<=q) w.heap.size acc2 w5 from (hBx.mono (fun q _ h=>h.1))); have hbf:=hid hbx2; clear hBx hbx2;go_wp2_with fail;refine ⟨?_,by simp [intOf]; omega⟩
       repeat (first | exact ⟨⟨k+1,acc2,rfl,by omega,hal2,hall2,hw2,hBf,hbf⟩,rfl⟩ | exact ⟨k+1,acc2,rfl,by omega,hal2,hall2,hw2,hBf,hbf⟩ | apply Exists.intro)
  ·have hks:k=l.length:=by omega
   subst hks
   have q1:decide ((l.length:Int) < (l.length:Int))=false:=by simp
   have hv:=hid (show res=acc by
    rw [hres.out,← List.append_nil acc]; have h1:=hw.out; have h2:=hall.out; rw [List.drop_length] at h1; rw [List.take_length] at h2
    unfold er; rw [h2,if_pos rfl,← h1]; rfl)
   have hstr:=hid (od w.heap.size w.heap.size acc wr hB.out.bld hbe.out.size); clear hw hall hlt
   go_wp2_with fail
   refine hstr.out.mono ?_; rintro e w2 ⟨rfl,hb2⟩; have hbf:=hid (hbe.out.trans hb2)
   go_wp2_with fail
   go_ret; exact ⟨by rw [hv.out]; rfl,hbf.out⟩
end Go.Proofs.YtffdpoifdahadaaGreatDoor
