/- PmS: ShaE, PmS, in one text. -/
import Derived.Test.YtfejagpjahoibaaGreatDoorSha3
import Derived.Test.YtfejagpjahoibaaGreatDoorPlB
set_option linter.unusedVariables false
namespace Go.Proofs.YtfejagpjahoibaaGreatDoor
open Go.RowKit
/-- k at n, n brought to a number first -/
def forceN {α:Type} (n:Nat) (k:Nat→α):α:=match n with
 | 0=>k 0
 | m+1=>k (m+1)
theorem forceN_eq {α:Type} (n:Nat) (k:Nat→α):forceN n k=k n:=by cases n <;> rfl
def rotN (a k:Nat):Nat:=(a * 2 ^ (32 - k) % 4294967296) ||| (a / 2 ^ k)
def sg0N (x:Nat):Nat:=(rotN x 7 ^^^ rotN x 18) ^^^ (x / 8)
def sg1N (x:Nat):Nat:=(rotN x 17 ^^^ rotN x 19) ^^^ (x / 1024)
def addN (a b:Nat):Nat:=(a+b) % 4294967296
def nextN (l:List Nat):Nat:=addN (addN (addN (l.getD 15 0) (sg0N (l.getD 14 0))) (l.getD 6 0)) (sg1N (l.getD 1 0))
def extN:Nat→List Nat→List Nat
 | 0,l=>l
 | n+1,l=>forceN (nextN l) fun x=>extN n (x::l)
def S1N (e:Nat):Nat:=(rotN e 6 ^^^ rotN e 11) ^^^ rotN e 25
def S0N (a:Nat):Nat:=(rotN a 2 ^^^ rotN a 13) ^^^ rotN a 22
def chN (e f g:Nat):Nat:=(e &&& f) ^^^ ((4294967295 ^^^ e) &&& g)
def mjN (a b c:Nat):Nat:=((a &&& b) ^^^ (a &&& c)) ^^^ (b &&& c)
def rndN {α:Type} (out:Nat→Nat→Nat→Nat→Nat→Nat→Nat→Nat→α):List (Nat × Nat)→Nat→Nat→Nat→Nat→Nat→Nat→Nat→Nat→α
 | [],a,b,c,d,e,f,g,h=>out a b c d e f g h
 | p::ps,a,b,c,d,e,f,g,h =>
  forceN (addN (addN (addN (addN h (S1N e)) (chN e f g)) p.1) p.2) fun t =>
  forceN (addN (addN t (S0N a)) (mjN a b c)) fun x =>
  forceN (addN d t) fun y=>rndN out ps x a b c y e f g
theorem t_rot (x:UInt32) (k:Nat):(rotW x k).toNat=rotN x.toNat k:=by
 unfold rotW rotN oW mulW divW; have h:=u32_lt x; have h2:=Nat.div_le_self x.toNat (2 ^ k); rw [UInt32.toNat_or,UInt32.toNat_ofNat',UInt32.toNat_ofNat_of_lt' (show x.toNat / 2 ^ k < UInt32.size by unfold UInt32.size; omega)]
theorem t_div (x:UInt32) (k:Nat):(divW x k).toNat=x.toNat / k:=by
 unfold divW; have h:=u32_lt x; have h2:=Nat.div_le_self x.toNat k; rw [UInt32.toNat_ofNat_of_lt' (show x.toNat / k < UInt32.size by unfold UInt32.size; omega)]
theorem t_x (a b:UInt32):(xW a b).toNat=a.toNat ^^^ b.toNat:=UInt32.toNat_xor a b
theorem t_a (a b:UInt32):(aW a b).toNat=a.toNat &&& b.toNat:=UInt32.toNat_and a b
theorem t_n (a:UInt32):(nW a).toNat=4294967295 ^^^ a.toNat:=UInt32.toNat_xor _ a
theorem t_add (a b:UInt32):(addW a b).toNat=addN a.toNat b.toNat:=UInt32.toNat_add a b
theorem t_sg0 (x:UInt32):(sg0 x).toNat=sg0N x.toNat:=by unfold sg0 sg0N; rw [t_x,t_x,t_rot,t_rot,t_div]
theorem t_sg1 (x:UInt32):(sg1 x).toNat=sg1N x.toNat:=by unfold sg1 sg1N; rw [t_x,t_x,t_rot,t_rot,t_div]
theorem t_S0 (x:UInt32):(S0 x).toNat=S0N x.toNat:=by unfold S0 S0N; rw [t_x,t_x,t_rot,t_rot,t_rot]
theorem t_S1 (x:UInt32):(S1 x).toNat=S1N x.toNat:=by unfold S1 S1N; rw [t_x,t_x,t_rot,t_rot,t_rot]
theorem t_ch (e f g:UInt32):(chW e f g).toNat=chN e.toNat f.toNat g.toNat:=by unfold chW chN; rw [t_x,t_a,t_a,t_n]
theorem t_mj (a b c:UInt32):(mjW a b c).toNat=mjN a.toNat b.toNat c.toNat:=by unfold mjW mjN; rw [t_x,t_x,t_a,t_a,t_a]
/-- the first m words, the last one first -/
def accN (F:Nat→UInt32):Nat→List Nat
 | 0=>[]
 | m+1=>(F m).toNat::accN F m
theorem accN_at (F:Nat→UInt32):∀ (m k:Nat),k < m→(accN F m).getD k 0=(F (m - 1 - k)).toNat
 | 0,k,h=>absurd h (Nat.not_lt_zero k)
 | m+1,0,_=>rfl
 | m+1,k+1,h=>by
  have:=accN_at F m k (by omega); show (accN F m).getD k 0=_; rw [this,show m - 1 - k=m+1 - 1 - (k+1) by omega]
theorem accN_congr (F G:Nat→UInt32):∀ (m:Nat),(∀ j,j < m→F j=G j)→accN F m=accN G m
 | 0,_=>rfl
 | m+1,h=>by unfold accN; rw [h m (by omega),accN_congr F G m (fun j hj=>h j (by omega))]
theorem t_next (F:Nat→UInt32) (m:Nat) (h:16≤m):nextN (accN F m)=(nextW F m).toNat:=by
 unfold nextN nextW; rw [accN_at F m 15 (by omega),accN_at F m 14 (by omega),accN_at F m 6 (by omega),accN_at F m 1 (by omega)]; rw [t_add,t_add,t_add,t_sg0,t_sg1,show m - 1 - 15=m - 16 by omega,show m - 1 - 14=m - 15 by omega,show m - 1 - 6=m - 7 by omega,show m - 1 - 1=m - 2 by omega]
theorem t_ext (f:Nat→UInt32):∀ (n k:Nat),extN n (accN (extW f k) (16+k))=accN (extW f (k+n)) (16+(k+n))
 | 0,k=>rfl
 | n+1,k=>by
  unfold extN; rw [forceN_eq,t_next _ _ (by omega)]
  have e:(nextW (extW f k) (16+k)).toNat::accN (extW f k) (16+k)=accN (extW f (k+1)) (16+(k+1)):=by
   show _=(extW f (k+1) (16+k)).toNat::accN (extW f (k+1)) (16+k)
   congr 1
   ·show _=(updW _ _ _ _).toNat
    unfold updW; rw [if_pos rfl]
   ·refine accN_congr _ _ _ fun j hj=>?_
    show _=updW _ _ _ _; unfold updW; rw [if_neg (by omega)]
  rw [e,t_ext f n (k+1),show k+1+n=k+(n+1) by omega]
theorem t_rnd {α:Type} (out:Nat→Nat→Nat→Nat→Nat→Nat→Nat→Nat→α) (V:V8) (F:Nat→UInt32):∀ (n k:Nat),
  rndN out ((List.range' k n).map fun i=>((rk i).toNat,(F i).toNat)) (rnd V F k).a.toNat (rnd V F k).b.toNat (rnd V F k).c.toNat (rnd V F k).d.toNat (rnd V F k).e.toNat (rnd V F k).f.toNat (rnd V F k).g.toNat (rnd V F k).h.toNat =
  out (rnd V F (k+n)).a.toNat (rnd V F (k+n)).b.toNat (rnd V F (k+n)).c.toNat (rnd V F (k+n)).d.toNat (rnd V F (k+n)).e.toNat (rnd V F (k+n)).f.toNat (rnd V F (k+n)).g.toNat (rnd V F (k+n)).h.toNat
 | 0,k=>rfl
 | n+1,k=>by
  have ih:=t_rnd out V F n (k+1); rw [show k+1+n=k+(n+1) by omega] at ih; rw [← ih,List.range'_succ,List.map_cons]; have e:rnd V F (k+1)=(rnd V F k).next (rk k) (F k):=rfl; rw [e]; generalize rnd V F k=v; unfold V8.next t1W; simp only [rndN,forceN_eq,t_add,t_S0,t_S1,t_ch,t_mj]
theorem accN_rev (F:Nat→UInt32):∀ m,(accN F m).reverse=(List.range m).map fun i=>(F i).toNat
 | 0=>rfl
 | m+1=>by
  show ((F m).toNat::accN F m).reverse=_; rw [List.reverse_cons,accN_rev F m,List.range_succ,List.map_append]; rfl
def rksN:List Nat:=[1116352408,1899447441,3049323471,3921009573,961987163,1508970993,2453635748,2870763221,3624381080,310598401,607225278,1426881987,1925078388,2162078206,2614888103,3248222580,3835390401,4022224774,264347078,604807628,770255983,1249150122,1555081692,1996064986,2554220882,2821834349,2952996808,3210313671,3336571891,3584528711,113926993,338241895,666307205,773529912,1294757372,1396182291,1695183700,1986661051,2177026350,2456956037,2730485921,2820302411,3259730800,3345764771,3516065817,3600352804,4094571909,275423344,430227734,506948616,659060556,883997877,958139571,1322822218,1537002063,1747873779,1955562222,2024104815,2227730452,2361852424,2428436474,2756734187,3204031479,3329325298]
theorem rksN_eq:rksN=(List.range 64).map fun i=>(rk i).toNat:=by decide +kernel
def outN (a b c d e f g h:Nat):List Nat:=[addN 1779033703 a,addN 3144134277 b,addN 1013904242 c,addN 2773480762 d,addN 1359893119 e,addN 2600822924 f,addN 528734635 g,addN 1541459225 h]
def shaN (ws:List Nat):List Nat:=rndN outN (rksN.zip (extN 48 ws).reverse) 1779033703 3144134277 1013904242 2773480762 1359893119 2600822924 528734635 1541459225
theorem zip_map2 {α:Type} (f g:α→Nat):∀ l:List α,(l.map f).zip (l.map g)=l.map fun i=>(f i,g i)
 | []=>rfl
 | x::l=>by simp only [List.map_cons,List.zip_cons_cons]; rw [zip_map2 f g l]
theorem shaN_eq (b:List UInt8) (ws:List Nat) (h:accN (loadK b 16) 16=ws):shaN ws=(List.range 8).map fun i=>(compF h0W b i).toNat:=by
 unfold shaN; have e1:=t_ext (loadK b 16) 48 0; have e2:accN (extW (loadK b 16) 0) (16+0)=ws:=h; rw [e2] at e1; rw [e1,accN_rev,rksN_eq]; rw [show 16+(0+48)=64 from rfl,show (0+48)=48 from rfl,zip_map2,List.range_eq_range']; have e3:=t_rnd outN (v8of h0W) (extW (loadK b 16) 48) 64 0; rw [show 0+64=64 from rfl] at e3; have e4:rnd (v8of h0W) (extW (loadK b 16) 48) 0=v8of h0W:=rfl; rw [e4] at e3
 have a1:(v8of h0W).a.toNat=1779033703:=by decide +kernel
 have a2:(v8of h0W).b.toNat=3144134277:=by decide +kernel
 have a3:(v8of h0W).c.toNat=1013904242:=by decide +kernel
 have a4:(v8of h0W).d.toNat=2773480762:=by decide +kernel
 have a5:(v8of h0W).e.toNat=1359893119:=by decide +kernel
 have a6:(v8of h0W).f.toNat=2600822924:=by decide +kernel
 have a7:(v8of h0W).g.toNat=528734635:=by decide +kernel
 have a8:(v8of h0W).h.toNat=1541459225:=by decide +kernel
 rw [a1,a2,a3,a4,a5,a6,a7,a8] at e3; rw [e3]; unfold compF; generalize rnd (v8of h0W) (extW (loadK b 16) 48) 64=v; have b1:(h0W 0).toNat=1779033703:=a1; have b2:(h0W 1).toNat=3144134277:=a2; have b3:(h0W 2).toNat=1013904242:=a3; have b4:(h0W 3).toNat=2773480762:=a4; have b5:(h0W 4).toNat=1359893119:=a5; have b6:(h0W 5).toNat=2600822924:=a6; have b7:(h0W 6).toNat=528734635:=a7; have b8:(h0W 7).toNat=1541459225:=a8
 have c:∀ i,i < 8→(addK h0W v 8 i).toNat=addN (h0W i).toNat (v.at i).toNat:=fun i hi=>by unfold addK; rw [if_pos hi,t_add]
 have r8:List.range 8=[0,1,2,3,4,5,6,7]:=rfl; rw [r8]; simp only [List.map_cons,List.map_nil]; rw [c 0 (by decide),c 1 (by decide),c 2 (by decide),c 3 (by decide),c 4 (by decide),c 5 (by decide),c 6 (by decide),c 7 (by decide),b1,b2,b3,b4,b5,b6,b7,b8]; rfl
/-- the digest of a string of one block -/
theorem shaF_short (s:List UInt8) (ws hs:List Nat) (hl:s.length≤55) (hb:accN (loadK (blk (tl2 s (8 * s.length) 8) 0) 16) 16=ws) (hh:shaN ws=hs) :
  shaF s=(List.range 32).map fun j=>UInt8.ofNat (hs.getD (j / 4) 0 / 2 ^ (24 - 8 * (j % 4)) % 256):=by
 unfold shaF shaW; rw [shaE_end _ _ (by omega)]
 have e:tlSize s / 64=1:=by unfold tlSize; rw [if_neg (by omega)]
 unfold shaT; rw [e]; have h1:=shaN_eq _ _ hb; rw [hh] at h1
 refine List.map_congr_left fun j hj=>?_
 have hj:=List.mem_range.1 hj; unfold dgB lowW; rw [t_div]
 congr 3
 subst h1; show (compF h0W (blk _ (64 * 0)) (j / 4)).toNat=_; rw [List.getD_eq_getElem?_getD,List.getElem?_map,List.getElem?_range (by omega)]; rfl
end Go.Proofs.YtfejagpjahoibaaGreatDoor
set_option linter.unusedSimpArgs false
namespace Go.Proofs.YtfejagpjahoibaaGreatDoor
open Go.RowKit
open Go.Lib (hid)
theorem sha45_4:(shaF [0,4,1,97,1,98])[0]? = some 40:=by
 rw [shaF_short _ [48,0,0,0,0,0,0,0,0,0,0,0,0,0,23232512,262497] [686252773,253853440,2458820373,2034587240,1792161908,94409053,3237567869,3431672404] (by decide) (by decide +kernel) (by decide +kernel)]
 decide +kernel
theorem sha45_2:(shaF [0,2,1,97,0])[0]? = some 171:=by
 rw [shaF_short _ [40,0,0,0,0,0,0,0,0,0,0,0,0,0,8388608,131425] [2882980764,3959404367,3802367320,3637045796,2587173956,1534767083,2886903036,845449621] (by decide) (by decide +kernel) (by decide +kernel)]
 decide +kernel
theorem sha45_1:(shaF [0,1,0,1,98])[0]? = some 121:=by
 rw [shaF_short _ [40,0,0,0,0,0,0,0,0,0,0,0,0,0,1652555776,65537] [2036796992,2455776861,618218317,2202145631,931401900,2926369314,1580925008,1904738046] (by decide) (by decide +kernel) (by decide +kernel)]
 decide +kernel
theorem msg45_4:ienc 0++nenc 4++tenc [97]++tenc [98]=[0,4,1,97,1,98]:=by decide +kernel
theorem msg45_2:ienc 0++nenc 2++tenc [97]++tenc []=[0,2,1,97,0]:=by decide +kernel
theorem msg45_1:ienc 0++nenc 1++tenc []++tenc [98]=[0,1,0,1,98]:=by decide +kernel
theorem hex_first {a:List UInt8} {x:UInt8} (ha:a[0]? = some x):(hexF a)[0]? = some (hexDg (x.toNat / 16)):=by
 unfold hexF; rw [List.getElem?_map,List.getElem?_range (by decide)]; simp only [Option.map_some]; unfold hx; rw [if_pos (by decide),List.getD_eq_getElem?_getD,show 0 / 2=0 from rfl,ha]; rfl
theorem key45_ne {t k k':Int} {a b c d m m':List UInt8} {x y:UInt8} (h1:ienc t++nenc k++tenc a++tenc b=m) (h2:ienc t++nenc k'++tenc c++tenc d=m') (hx:(shaF m)[0]? = some x) (hy:(shaF m')[0]? = some y) (hne:hexDg (x.toNat / 16)≠hexDg (y.toNat / 16)):keyF t k a b≠keyF t k' c d:=by
 intro h; unfold keyF at h; rw [h1,h2] at h; injection h with _ h; have e1:=hex_first hx; rw [h,hex_first hy] at e1; injection e1 with e1; exact hne e1.symm
theorem key45_2:keyF 0 2 [97] []≠keyF 0 4 [97] [98]:=key45_ne msg45_2 msg45_4 sha45_2 sha45_4 (by decide +kernel)
theorem key45_1:keyF 0 1 [] [98]≠keyF 0 4 [97] [98]:=key45_ne msg45_1 msg45_4 sha45_1 sha45_4 (by decide +kernel)
end Go.Proofs.YtfejagpjahoibaaGreatDoor
