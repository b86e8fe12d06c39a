/- strata: a rule, a literal, a row of ints read as data, with the bound of the second form; the table of powers of ten out of what is laid. -/
import Derived.Test.YtffdpoifdahadaaGreatDoorAskQv
import Derived.Test.YtffdpoifdahadaaGreatDoorLexW8
set_option linter.unusedVariables false
namespace Go.Proofs.YtffdpoifdahadaaGreatDoor
open Go.Joins Go.ChangeShapes Go.WideShapes Go.ChangeAt Go.RowKit Go.WideMaps Go.WideElems Go.Deep
set_option maxRecDepth 100000 in
theorem read_rule {H:Type} {enc:TypeId × Value→H} {W:World} {r:Reach} {b0:Nat} {v:Value} {d:DataW H} {p:List MemPlace} (hv:Value.okWide Tryz.prog W r b0 27 v) (h:DataW.Trod enc Tryz.prog W 0 (fun _=>true) true 27 v d p) (hlt:∀ x∈p,x.block < W.heap.size) (hb:Rows.uptoBulk d≤1048576) :
  ∃ (x:Rg) (ha:Option Addr) (hc:Nat) (ba:Option Addr) (bc:Nat),v=.agg (rucells x.head.op x.head.nt x.head.rel (.slice ha x.head.args.length hc) x.agg x.at_ (.slice ba x.body.length bc))∧SlR 7 TgR (LowF W) W x.head.args (.slice ha x.head.args.length hc)∧SlR 4 LgR (LowF W) W x.body (.slice ba x.body.length bc)∧RgM x:=by
 obtain ⟨⟨cs⟩,rfl,hsz⟩:=okWide_struct Tryz.underlying27 hv; obtain ⟨n,h⟩:=h; obtain ⟨x,⟨ha,hc,ba,bc,hcs,h1,h2⟩,h3⟩:=read_rg (y:=(d,p)) h hlt hb; simp only [Value.cells] at hcs; subst hcs; exact ⟨x,ha,hc,ba,bc,rfl,h1,h2,h3⟩
set_option maxRecDepth 100000 in
theorem read_lit {H:Type} {enc:TypeId × Value→H} {W:World} {r:Reach} {b0:Nat} {v:Value} {d:DataW H} {p:List MemPlace} (hv:Value.okWide Tryz.prog W r b0 24 v) (h:DataW.Trod enc Tryz.prog W 0 (fun _=>true) true 24 v d p) (hlt:∀ x∈p,x.block < W.heap.size) (hb:Rows.uptoBulk d≤1048576) :
  ∃ (x:Lg) (a:Option Addr) (c:Nat),v=.agg (lcells x.op x.nt x.rel (.slice a x.args.length c))∧SlR 7 TgR (LowF W) W x.args (.slice a x.args.length c)∧LgM x:=by
 obtain ⟨⟨cs⟩,rfl,hsz⟩:=okWide_struct Tryz.underlying24 hv; obtain ⟨n,h⟩:=h; obtain ⟨x,⟨a,c,hcs,h1⟩,h3⟩:=read_lg (y:=(d,p)) h hlt hb; simp only [Value.cells] at hcs; subst hcs; exact ⟨x,a,c,rfl,h1,h3⟩
set_option maxRecDepth 100000 in
theorem read_introw {H:Type} {enc:TypeId × Value→H} {W:World} {r:Reach} {b0:Nat} {v:Value} {d:DataW H} {p:List MemPlace} (hv:Value.okWide Tryz.prog W r b0 33 v) (h:DataW.Trod enc Tryz.prog W 0 (fun _=>true) true 33 v d p) (hlt:∀ x∈p,x.block < W.heap.size) (hb:Rows.uptoBulk d≤1048576) :
  ∃ (l:List Int) (a:Option Addr) (c:Nat),v=.slice a l.length c∧SlR 1 IntR (LowF W) W l (.slice a l.length c)∧l.length≤1048576:=by
 obtain ⟨a0,n0,c0,rfl⟩:=okWide_slice Tryz.underlying33 hv; obtain ⟨n,h⟩:=h
 obtain ⟨l,hl,-,hn⟩:=read_row (R:=IntR) (Ok:=fun _=>True) (B:=1048576) Tryz.underlying33 (show Tryz.prog.cellsOf 3 = 1 by kernel_rfl) (by decide) (fun n cs y h hc _ _=>by
  match cs,hc with
  | [u],_ =>
   obtain ⟨z,rfl,-⟩:=read_int1 Tryz.underlying3 h
   exact ⟨z,rfl,trivial⟩) (y:=(d,p)) h hlt hb
 obtain ⟨a,c,e,-⟩:=hl.slice; rw [e] at hl; exact ⟨l,a,c,e,hl,hn⟩
theorem u8_nat {z:Int} (h:(Lit.int .u8 z).wf=true):∃ n:Nat,n < 256∧z=(n:Int):=by
 have h9:(decide (IntKind.u8.min≤z) && decide (z≤IntKind.u8.max))=true:=h; simp only [Bool.and_eq_true,decide_eq_true_eq] at h9; have h1:(0:Int)≤z:=h9.1; have h2:z≤255:=h9.2; exact ⟨z.toNat,by omega,by omega⟩
theorem tab_of_laid {W:World} (h:laidMetH Tryz.prog Rows.strataOrderRow.laid W):Tab W:=by
 rw [MakeChecks.laidMetH_plain _ _ _ (by kernel_rfl)] at h; have h2:=laidMet_tail (laidMet_tail h); exact Lib.tabIs_of_head (g:=0) (t:=201) (e:=149) (n:=20) (rest:=[]) (by kernel_rfl) (by kernel_rfl) (by kernel_rfl) (by kernel_rfl) (by kernel_rfl) (by kernel_rfl) h2
end Go.Proofs.YtffdpoifdahadaaGreatDoor
