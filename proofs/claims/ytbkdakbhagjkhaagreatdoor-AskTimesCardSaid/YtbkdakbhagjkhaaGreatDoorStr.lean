/- Strings as lists of bytes: indexes and cuts. -/
import Derived.Test.YtbkdakbhagjkhaaGreatDoorLib
import Derived.Deep.DeepCutAuto
set_option linter.unusedVariables false
namespace Go.Proofs.YtbkdakbhagjkhaaGreatDoor
open Go.RowKit
abbrev sv (l : List UInt8) : Value:=.string ⟨l.toArray⟩
theorem ext_drop (s : List UInt8) (k : Nat) : (ByteArray.mk s.toArray).extract k s.length = ⟨(s.drop k).toArray⟩:=by
 rw [ByteArray.extract_mk,List.take_of_length_le (by simp)]
theorem idx_str {P : Program} (t : TypeId) (ht : P.underlying t = some .string) (s : List UInt8) (k : Nat) (c : UInt8) (hc : s[k]? = some c) : ∀ kd W,(Instr.index t (.string ⟨s.toArray⟩) (.int kd k)).run P W = .ok (.int .u8 c.toNat) W:=by
 intro kd W; obtain ⟨hk,e⟩:=List.getElem?_eq_some_iff.1 hc; rw [run_index_string W t _ kd k ht]; rw [dif_pos ⟨by omega,by rw [ByteArray.size_mk',List.size_toArray]; omega⟩]; subst e; rfl
theorem idx_str0 {P : Program} (t : TypeId) (ht : P.underlying t = some .string) (c : UInt8) (s : List UInt8) : ∀ kd W,(Instr.index t (.string ⟨(c :: s).toArray⟩) (.int kd 0)).run P W = .ok (.int .u8 c.toNat) W:=fun kd W=>idx_str t ht (c :: s) 0 c rfl kd W
theorem ext_tail (c : UInt8) (r : List UInt8) : (ByteArray.mk (c :: r).toArray).extract 1 (r.length + 1) = ⟨r.toArray⟩:=ext_drop (c :: r) 1
theorem ext_tail2 (c d : UInt8) (r : List UInt8) : (ByteArray.mk (c :: d :: r).toArray).extract 1 (r.length + 1 + 1) = ⟨(d :: r).toArray⟩:=ext_drop (c :: d :: r) 1
/-- an append in a region that draws, by its run -/
theorem step_append_run {P : Program} {ops : Array Oper} {o : Oper} {a : Act} {w w' : World} {K : Act → World → Prop} {Q : Exit → Act → World → Prop} {E : Prop} (hg : o.guard = none) (s x : Operand) (t u : TypeId)
  (hop : o.op = Op.call { callee:=Callee.builtin Builtin.append,args:=#[s,x],argTypes:=#[t,u] }) {vs vx v' : Value} (hs : a.eval s = vs) (hx : a.eval x = vx)
  (hrun : (Builtin.append_ #[t,u] o.type #[vs,vx]).run P w = .ok v' w') (hK : K (a.put o.dst v') w') : if Region.wanted o (yielded ops a.tmps) = true then Oper.wp P o a w K Q else E:=by
 have hw : Region.wanted o (yielded ops a.tmps) = true:=by simp [Region.wanted,hg]
 rw [if_pos hw]; unfold Oper.wp execOp; simp only [hop,resolve,invoke,builtin,Sem.run_bind,Sem.run_pure,Result.andThen_ok,List.map_toArray,List.map_cons,List.map_nil,hs,hx,hrun]; exact hK
/-- an append by its run -/
theorem wpList_append_run {P : Program} {ops : Array Oper} {rest : List Oper} {o : Oper} {a : Act} {w w' : World} {Q : Exit → Act → World → Prop} (hg : o.guard = none) (s x : Operand) (t u : TypeId)
  (hop : o.op = Op.call { callee:=Callee.builtin Builtin.append,args:=#[s,x],argTypes:=#[t,u] }) {vs vx v' : Value} (hs : a.eval s = vs) (hx : a.eval x = vx)
  (hrun : (Builtin.append_ #[t,u] o.type #[vs,vx]).run P w = .ok v' w') (h : wpList P ops Q rest (a.put o.dst v') w') : wpList P ops Q (o :: rest) a w:=by
 refine wpList_plain hg fun K hK=>?_
 unfold Oper.wp execOp; simp only [hop,resolve,invoke,builtin,Sem.run_bind,Sem.run_pure,Result.andThen_ok,List.map_toArray,List.map_cons,List.map_nil,hs,hx,hrun]; exact hK _ _ h
end Go.Proofs.YtbkdakbhagjkhaaGreatDoor
