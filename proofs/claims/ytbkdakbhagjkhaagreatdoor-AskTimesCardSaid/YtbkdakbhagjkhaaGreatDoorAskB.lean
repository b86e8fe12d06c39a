/- ask: reserved, isVariable, isRelation, aggregate. -/
import Derived.Test.YtbkdakbhagjkhaaGreatDoorAskA
set_option linter.unusedVariables false
namespace Go.Proofs.YtbkdakbhagjkhaaGreatDoor
open Go.RowKit
open Go.Lib (hid)
def resL : List (List UInt8):=[[110,111,116],[111,110,99,101],[110,101,118,101,114],[115,105,110,99,101],[110,111],[97,116],[98,101,102,111,114,101],[97,102,116,101,114],[99,111,117,110,116],[115,117,109],[109,105,110],[109,97,120]]
def resB (s : List UInt8) : Bool:=resL.contains s
def varF (s : List UInt8) : Bool:=isNm s && !resB s
def relF (s : List UInt8) : Bool:=varF s && (match s with
 | []=>false
 | c :: _=>decide (97 ≤ c.toNat) && decide (c.toNat ≤ 122))
def aggF (s : List UInt8) : Int:=if s = [99,111,117,110,116] then 1 else if s = [115,117,109] then 2 else if s = [109,105,110] then 3 else if s = [109,97,120] then 4 else 0
set_option maxHeartbeats 1000000 in
set_option maxRecDepth 100000 in
theorem reserved_any (s : List UInt8) (w : World) : Calls Tryz.prog 91 #[sv s] w fun e w'=>e = .returned (.bool (resB s)) ∧ w' = w:=by
 by_cases h0 : s = [110,111,116]
 ·have hr : resB s = true:=by rw [h0]; decide
  rw [hr]
  have b0 : (s == [110,111,116]) = true:=by simpa using h0
  replace h0:=hid h0; clear hr
  go_enter Tryz.func91,Tryz.ntmps91
  go_wp2_with fail
  go_ret; exact ⟨rfl,rfl⟩
 have b0 : (s == [110,111,116]) = false:=by simpa using h0
 by_cases h1 : s = [111,110,99,101]
 ·have hr : resB s = true:=by rw [h1]; decide
  rw [hr]
  have b1 : (s == [111,110,99,101]) = true:=by simpa using h1
  replace h0:=hid h0; replace h1:=hid h1; clear hr
  go_enter Tryz.func91,Tryz.ntmps91
  go_wp2_with fail
  go_ret; exact ⟨rfl,rfl⟩
 have b1 : (s == [111,110,99,101]) = false:=by simpa using h1
 by_cases h2 : s = [110,101,118,101,114]
 ·have hr : resB s = true:=by rw [h2]; decide
  rw [hr]
  have b2 : (s == [110,101,118,101,114]) = true:=by simpa using h2
  replace h0:=hid h0; replace h1:=hid h1; replace h2:=hid h2; clear hr
  go_enter Tryz.func91,Tryz.ntmps91
  go_wp2_with fail
  go_ret; exact ⟨rfl,rfl⟩
 have b2 : (s == [110,101,118,101,114]) = false:=by simpa using h2
 by_cases h3 : s = [115,105,110,99,101]
 ·have hr : resB s = true:=by rw [h3]; decide
  rw [hr]
  have b3 : (s == [115,105,110,99,101]) = true:=by simpa using h3
  replace h0:=hid h0; replace h1:=hid h1; replace h2:=hid h2; replace h3:=hid h3; clear hr
  go_enter Tryz.func91,Tryz.ntmps91
  go_wp2_with fail
  go_ret; exact ⟨rfl,rfl⟩
 have b3 : (s == [115,105,110,99,101]) = false:=by simpa using h3
 by_cases h4 : s = [110,111]
 ·have hr : resB s = true:=by rw [h4]; decide
  rw [hr]
  have b4 : (s == [110,111]) = true:=by simpa using h4
  replace h0:=hid h0; replace h1:=hid h1; replace h2:=hid h2; replace h3:=hid h3; replace h4:=hid h4; clear hr
  go_enter Tryz.func91,Tryz.ntmps91
  go_wp2_with fail
  go_ret; exact ⟨rfl,rfl⟩
 have b4 : (s == [110,111]) = false:=by simpa using h4
 by_cases h5 : s = [97,116]
 ·have hr : resB s = true:=by rw [h5]; decide
  rw [hr]
  have b5 : (s == [97,116]) = true:=by simpa using h5
  replace h0:=hid h0; replace h1:=hid h1; replace h2:=hid h2; replace h3:=hid h3; replace h4:=hid h4; replace h5:=hid h5; clear hr
  go_enter Tryz.func91,Tryz.ntmps91
  go_wp2_with fail
  go_ret; exact ⟨rfl,rfl⟩
 have b5 : (s == [97,116]) = false:=by simpa using h5
 by_cases h6 : s = [98,101,102,111,114,101]
 ·have hr : resB s = true:=by rw [h6]; decide
  rw [hr]
  have b6 : (s == [98,101,102,111,114,101]) = true:=by simpa using h6
  replace h0:=hid h0; replace h1:=hid h1; replace h2:=hid h2; replace h3:=hid h3; replace h4:=hid h4; replace h5:=hid h5; replace h6:=hid h6; clear hr
  go_enter Tryz.func91,Tryz.ntmps91
  go_wp2_with fail
  go_ret; exact ⟨rfl,rfl⟩
 have b6 : (s == [98,101,102,111,114,101]) = false:=by simpa using h6
 by_cases h7 : s = [97,102,116,101,114]
 ·have hr : resB s = true:=by rw [h7]; decide
  rw [hr]
  have b7 : (s == [97,102,116,101,114]) = true:=by simpa using h7
  replace h0:=hid h0; replace h1:=hid h1; replace h2:=hid h2; replace h3:=hid h3; replace h4:=hid h4; replace h5:=hid h5; replace h6:=hid h6; replace h7:=hid h7; clear hr
  go_enter Tryz.func91,Tryz.ntmps91
  go_wp2_with fail
  go_ret; exact ⟨rfl,rfl⟩
 have b7 : (s == [97,102,116,101,114]) = false:=by simpa using h7
 by_cases h8 : s = [99,111,117,110,116]
 ·have hr : resB s = true:=by rw [h8]; decide
  rw [hr]
  have b8 : (s == [99,111,117,110,116]) = true:=by simpa using h8
  replace h0:=hid h0; replace h1:=hid h1; replace h2:=hid h2; replace h3:=hid h3; replace h4:=hid h4; replace h5:=hid h5; replace h6:=hid h6; replace h7:=hid h7; replace h8:=hid h8; clear hr
  go_enter Tryz.func91,Tryz.ntmps91
  go_wp2_with fail
  go_ret; exact ⟨rfl,rfl⟩
 have b8 : (s == [99,111,117,110,116]) = false:=by simpa using h8
 by_cases h9 : s = [115,117,109]
 ·have hr : resB s = true:=by rw [h9]; decide
  rw [hr]
  have b9 : (s == [115,117,109]) = true:=by simpa using h9
  replace h0:=hid h0; replace h1:=hid h1; replace h2:=hid h2; replace h3:=hid h3; replace h4:=hid h4; replace h5:=hid h5; replace h6:=hid h6; replace h7:=hid h7; replace h8:=hid h8; replace h9:=hid h9; clear hr
  go_enter Tryz.func91,Tryz.ntmps91
  go_wp2_with fail
  go_ret; exact ⟨rfl,rfl⟩
 have b9 : (s == [115,117,109]) = false:=by simpa using h9
 by_cases h10 : s = [109,105,110]
 ·have hr : resB s = true:=by rw [h10]; decide
  rw [hr]
  have b10 : (s == [109,105,110]) = true:=by simpa using h10
  replace h0:=hid h0; replace h1:=hid h1; replace h2:=hid h2; replace h3:=hid h3; replace h4:=hid h4; replace h5:=hid h5; replace h6:=hid h6; replace h7:=hid h7; replace h8:=hid h8; replace h9:=hid h9; replace h10:=hid h10; clear hr
  go_enter Tryz.func91,Tryz.ntmps91
  go_wp2_with fail
  go_ret; exact ⟨rfl,rfl⟩
 have b10 : (s == [109,105,110]) = false:=by simpa using h10
 by_cases h11 : s = [109,97,120]
 ·have hr : resB s = true:=by rw [h11]; decide
  rw [hr]
  have b11 : (s == [109,97,120]) = true:=by simpa using h11
  replace h0:=hid h0; replace h1:=hid h1; replace h2:=hid h2; replace h3:=hid h3; replace h4:=hid h4; replace h5:=hid h5; replace h6:=hid h6; replace h7:=hid h7; replace h8:=hid h8; replace h9:=hid h9; replace h10:=hid h10; replace h11:=hid h11; clear hr
  go_enter Tryz.func91,Tryz.ntmps91
  go_wp2_with fail
  go_ret; exact ⟨rfl,rfl⟩
 have b11 : (s == [109,97,120]) = false:=by simpa using h11
 have hr : resB s = false:=by
  unfold resB resL; simp only [List.contains_cons,b0,b1,b2,b3,b4,b5,b6,b7,b8,b9,b10,b11]; rfl
 rw [hr]; replace h0:=hid h0; replace h1:=hid h1; replace h2:=hid h2; replace h3:=hid h3; replace h4:=hid h4; replace h5:=hid h5; replace h6:=hid h6; replace h7:=hid h7; replace h8:=hid h8; replace h9:=hid h9; replace h10:=hid h10; replace h11:=hid h11; clear hr
 go_enter Tryz.func91,Tryz.ntmps91
 go_wp2_with fail
 go_ret; exact ⟨rfl,rfl⟩
set_option maxHeartbeats 1000000 in
set_option maxRecDepth 100000 in
theorem aggregate_any (s : List UInt8) (w : World) : Calls Tryz.prog 72 #[sv s] w fun e w'=>e = .returned (iv (aggF s)) ∧ w' = w:=by
 by_cases h0 : s = [99,111,117,110,116]
 ·have hr : aggF s = 1:=by rw [h0]; decide
  rw [hr]
  have b0 : (s == [99,111,117,110,116]) = true:=by simpa using h0
  replace h0:=hid h0; clear hr
  go_enter Tryz.func72,Tryz.ntmps72
  go_wp2_with fail
  go_ret; exact ⟨rfl,rfl⟩
 have b0 : (s == [99,111,117,110,116]) = false:=by simpa using h0
 by_cases h1 : s = [115,117,109]
 ·have hr : aggF s = 2:=by rw [h1]; decide
  rw [hr]
  have b1 : (s == [115,117,109]) = true:=by simpa using h1
  replace h0:=hid h0; replace h1:=hid h1; clear hr
  go_enter Tryz.func72,Tryz.ntmps72
  go_wp2_with fail
  go_ret; exact ⟨rfl,rfl⟩
 have b1 : (s == [115,117,109]) = false:=by simpa using h1
 by_cases h2 : s = [109,105,110]
 ·have hr : aggF s = 3:=by rw [h2]; decide
  rw [hr]
  have b2 : (s == [109,105,110]) = true:=by simpa using h2
  replace h0:=hid h0; replace h1:=hid h1; replace h2:=hid h2; clear hr
  go_enter Tryz.func72,Tryz.ntmps72
  go_wp2_with fail
  go_ret; exact ⟨rfl,rfl⟩
 have b2 : (s == [109,105,110]) = false:=by simpa using h2
 by_cases h3 : s = [109,97,120]
 ·have hr : aggF s = 4:=by rw [h3]; decide
  rw [hr]
  have b3 : (s == [109,97,120]) = true:=by simpa using h3
  replace h0:=hid h0; replace h1:=hid h1; replace h2:=hid h2; replace h3:=hid h3; clear hr
  go_enter Tryz.func72,Tryz.ntmps72
  go_wp2_with fail
  go_ret; exact ⟨rfl,rfl⟩
 have b3 : (s == [109,97,120]) = false:=by simpa using h3
 have hr : aggF s = 0:=by unfold aggF; rw [if_neg h0,if_neg h1,if_neg h2,if_neg h3]
 rw [hr]; replace h0:=hid h0; replace h1:=hid h1; replace h2:=hid h2; replace h3:=hid h3; clear hr
 go_enter Tryz.func72,Tryz.ntmps72
 go_wp2_with fail
 go_ret; exact ⟨rfl,rfl⟩
def okV (i : Nat) (c : UInt8) : Bool:=if i = 0 then isLet c else isWd c
theorem okV_wd {i : Nat} {c : UInt8} (h : okV i c = true) : isWd c = true:=by
 unfold okV at h; split at h
 ·exact isWd_let h
 ·exact h
theorem nm_no {s : List UInt8} {k : Nat} {y : UInt8} (hk : s[k]? = some y) (h : okV k y = false) : isNm s = false:=by
 cases s with
 | nil=>simp at hk
 | cons c r =>
  show (isLet c && (c :: r).all isWd) = false
  cases k with
  | zero =>
   simp at hk; subst hk
   have : isLet c = false:=by unfold okV at h; simpa using h
   rw [this]; rfl
  | succ k =>
   have h2 : isWd y = false:=by unfold okV at h; simpa using h
   have h3 : (c :: r).all isWd = false:=by
    rw [List.all_eq_false]; exact ⟨y,List.mem_of_getElem? hk,by simp [h2]⟩
   rw [h3,Bool.and_false]
theorem nm_yes {c : UInt8} {r : List UInt8} (h : ∀ i y,i < (c :: r).length → (c :: r)[i]? = some y → okV i y = true) : isNm (c :: r) = true:=by
 show (isLet c && (c :: r).all isWd) = true
 have h1 : (c :: r).all isWd = true:=by
  rw [List.all_eq_true]; intro y hy; obtain ⟨i,hi⟩:=List.getElem?_of_mem hy; exact okV_wd (h i y (List.getElem?_eq_some_iff.1 hi).1 hi)
 have h2:=h 0 c (by simp) (by simp)
 have h3 : isLet c = true:=by unfold okV at h2; simpa using h2
 rw [h1,h3]; rfl
theorem hit_nextV {α : Type} {p : Nat → α → Bool} {l : List α} {k : Nat} {x : α} (hx : l[k]? = some x) (hp : p k x = true) (hn : ∀ i y,i < k → l[i]? = some y → p i y = true) : ∀ i y,i < k + 1 → l[i]? = some y → p i y = true:=fun i y hi hy=>by
 by_cases e : i = k
 ·subst e; rw [hx] at hy; injection hy with hy; rw [← hy]; exact hp
 ·exact hn i y (by omega) hy
theorem letB {c : UInt8} (h : 65 ≤ c.toNat ∧ c.toNat ≤ 90 ∨ 97 ≤ c.toNat ∧ c.toNat ≤ 122) : isLet c = true:=by unfold isLet; simp; omega
theorem noLet {c : UInt8} (h : ¬ (65 ≤ c.toNat ∧ c.toNat ≤ 90 ∨ 97 ≤ c.toNat ∧ c.toNat ≤ 122)) : isLet c = false:=by
 cases e : isLet c with
 | false=>rfl
 | true=>exfalso; unfold isLet at e; simp at e; omega
theorem c95 {c : UInt8} : c = 95 ↔ c.toNat = 95:=by
 constructor
 ·intro h; rw [h]; rfl
 ·intro h; exact UInt8.toNat_inj.1 (by rw [h]; rfl)
theorem wdB {c : UInt8} (h : 48 ≤ c.toNat ∧ c.toNat ≤ 57 ∨ c.toNat = 95) : isWd c = true:=by unfold isWd isDg; simp [c95]; omega
theorem noWd {c : UInt8} (h : ¬ (65 ≤ c.toNat ∧ c.toNat ≤ 90 ∨ 97 ≤ c.toNat ∧ c.toNat ≤ 122) ∧ ¬ (48 ≤ c.toNat ∧ c.toNat ≤ 57) ∧ c.toNat ≠ 95) : isWd c = false:=by
 cases e : isWd c with
 | false=>rfl
 | true=>exfalso; unfold isWd isLet isDg at e; simp [c95] at e; omega
set_option maxHeartbeats 2000000 in
set_option maxRecDepth 100000 in
theorem isVariable_any (s : List UInt8) (w : World) (hs : s.length ≤ 1048576) : Calls Tryz.prog 82 #[sv s] w fun e w'=>e = .returned (.bool (varF s)) ∧ Below w.heap.size w w':=by
 obtain ⟨res,hres⟩ : ∃ res,varF s = res:=⟨_,rfl⟩; rw [hres]; replace hres:=hid hres
 go_enter Tryz.func82,Tryz.ntmps82
 go_wp2_with fail
 go_loopw [3] (fun i wr=>∃ k : Nat,i = .int .i64 k ∧ k ≤ s.length ∧ Hid (∀ i y,i < k → s[i]? = some y → okV i y = true) ∧ Hid (Below w.heap.size w wr)) (fun i _=>s.length - (intOf i).toNat)
 case atStart=>exact ⟨0,rfl,Nat.zero_le _,hid (fun i y h=>absurd h (by omega)),hid (Below.refl _ _)⟩
 case round =>
  obtain ⟨k,rfl,hk,hn,hB⟩:=hrel; by_cases hlt : k < s.length
  ·obtain ⟨c,hc⟩ : ∃ c,s[k]? = some c:=⟨_,List.getElem?_eq_getElem hlt⟩
   have hix:=idx_str (P:=Tryz.prog) 9 (by kernel_rfl) s k c hc; have hcl:=c.toNat_lt; have hno:=hid (fun h : okV k c = false=>(hres.out.symm.trans (by unfold varF; rw [nm_no hc h]; rfl) : res = false)); have hnx:=hid (fun h : okV k c = true=>hit_nextV hc h hn.out); have q1 : decide ((k : Int) < (s.length : Int)) = true:=decide_eq_true (by omega); clear hn hc; rcases (by omega : (0 ≤ c.toNat ∧ c.toNat ≤ 47) ∨ (48 ≤ c.toNat ∧ c.toNat ≤ 57) ∨ (58 ≤ c.toNat ∧ c.toNat ≤ 64) ∨ (65 ≤ c.toNat ∧ c.toNat ≤ 90) ∨ (91 ≤ c.toNat ∧ c.toNat ≤ 94) ∨ (95 ≤ c.toNat ∧ c.toNat ≤ 95) ∨ (96 ≤ c.toNat ∧ c.toNat ≤ 96) ∨ (97 ≤ c.toNat ∧ c.toNat ≤ 122) ∨ (123 ≤ c.toNat ∧ c.toNat ≤ 255)) with hcc | hcc | hcc | hcc | hcc | hcc | hcc | hcc | hcc
   ·-- 0 .. 47
    have d0 : decide ((65 : Int) ≤ (c.toNat : Int)) = false:=decide_eq_false (by omega); have d1 : decide ((c.toNat : Int) ≤ 90) = true:=decide_eq_true (by omega); have d2 : decide ((97 : Int) ≤ (c.toNat : Int)) = false:=decide_eq_false (by omega); have d3 : decide ((c.toNat : Int) ≤ 122) = true:=decide_eq_true (by omega); have d4 : decide ((c.toNat : Int) < 48) = true:=decide_eq_true (by omega); have d5 : decide ((57 : Int) < (c.toNat : Int)) = false:=decide_eq_false (by omega); have d7 : ((c.toNat : Int) != 95) = true:=bne_iff_ne.2 (by omega); have hfin:=hid (hno.out (by have h9:=noWd (c:=c) (by omega); unfold okV; split; exact noLet (by omega); exact h9)); clear hnx hno; by_cases h0 : k = 0
    ·have g0 : ((k : Int) == 0) = true:=by rw [h0]; rfl
     replace h0:=hid h0; clear hcc hcl
     go_wp2_with fail
     go_ret; exact ⟨by rw [hfin.out]; rfl,hB.out⟩
    ·have g0 : ((k : Int) == 0) = false:=beq_eq_false_iff_ne.2 (by omega)
     clear hcc hcl
     go_wp2_with fail
     go_ret; exact ⟨by rw [hfin.out]; rfl,hB.out⟩
   ·-- 48 .. 57
    have d0 : decide ((65 : Int) ≤ (c.toNat : Int)) = false:=decide_eq_false (by omega); have d1 : decide ((c.toNat : Int) ≤ 90) = true:=decide_eq_true (by omega); have d2 : decide ((97 : Int) ≤ (c.toNat : Int)) = false:=decide_eq_false (by omega); have d3 : decide ((c.toNat : Int) ≤ 122) = true:=decide_eq_true (by omega); have d4 : decide ((c.toNat : Int) < 48) = false:=decide_eq_false (by omega); have d5 : decide ((57 : Int) < (c.toNat : Int)) = false:=decide_eq_false (by omega); have d7 : ((c.toNat : Int) != 95) = true:=bne_iff_ne.2 (by omega); by_cases h0 : k = 0
    ·have g0 : ((k : Int) == 0) = true:=by rw [h0]; rfl
     have hfin:=hid (hno.out (by unfold okV; rw [if_pos h0]; exact noLet (by omega))); replace h0:=hid h0; clear hnx hno; clear hcc hcl
     go_wp2_with fail
     go_ret; exact ⟨by rw [hfin.out]; rfl,hB.out⟩
    ·have g0 : ((k : Int) == 0) = false:=beq_eq_false_iff_ne.2 (by omega)
     have hnx2:=hid (hnx.out (by unfold okV; rw [if_neg h0]; exact wdB (by omega))); clear hnx hno; clear hcc hcl
     go_wp2_with fail
     exact ⟨⟨k + 1,by go_num,by omega,hnx2,hB⟩,by simp [intOf]; omega⟩
   ·-- 58 .. 64
    have d0 : decide ((65 : Int) ≤ (c.toNat : Int)) = false:=decide_eq_false (by omega); have d1 : decide ((c.toNat : Int) ≤ 90) = true:=decide_eq_true (by omega); have d2 : decide ((97 : Int) ≤ (c.toNat : Int)) = false:=decide_eq_false (by omega); have d3 : decide ((c.toNat : Int) ≤ 122) = true:=decide_eq_true (by omega); have d4 : decide ((c.toNat : Int) < 48) = false:=decide_eq_false (by omega); have d5 : decide ((57 : Int) < (c.toNat : Int)) = true:=decide_eq_true (by omega); have d7 : ((c.toNat : Int) != 95) = true:=bne_iff_ne.2 (by omega); have hfin:=hid (hno.out (by have h9:=noWd (c:=c) (by omega); unfold okV; split; exact noLet (by omega); exact h9)); clear hnx hno; by_cases h0 : k = 0
    ·have g0 : ((k : Int) == 0) = true:=by rw [h0]; rfl
     replace h0:=hid h0; clear hcc hcl
     go_wp2_with fail
     go_ret; exact ⟨by rw [hfin.out]; rfl,hB.out⟩
    ·have g0 : ((k : Int) == 0) = false:=beq_eq_false_iff_ne.2 (by omega)
     clear hcc hcl
     go_wp2_with fail
     go_ret; exact ⟨by rw [hfin.out]; rfl,hB.out⟩
   ·-- 65 .. 90
    have d0 : decide ((65 : Int) ≤ (c.toNat : Int)) = true:=decide_eq_true (by omega); have d1 : decide ((c.toNat : Int) ≤ 90) = true:=decide_eq_true (by omega); have d2 : decide ((97 : Int) ≤ (c.toNat : Int)) = false:=decide_eq_false (by omega); have d3 : decide ((c.toNat : Int) ≤ 122) = true:=decide_eq_true (by omega); have d4 : decide ((c.toNat : Int) < 48) = false:=decide_eq_false (by omega); have d5 : decide ((57 : Int) < (c.toNat : Int)) = true:=decide_eq_true (by omega); have d7 : ((c.toNat : Int) != 95) = true:=bne_iff_ne.2 (by omega); have hnx2:=hid (hnx.out (by have h9:=letB (c:=c) (by omega); unfold okV; split; exact h9; exact isWd_let h9)); clear hnx hno; clear hcc hcl
    go_wp2_with fail
    exact ⟨⟨k + 1,by go_num,by omega,hnx2,hB⟩,by simp [intOf]; omega⟩
   ·-- 91 .. 94
    have d0 : decide ((65 : Int) ≤ (c.toNat : Int)) = true:=decide_eq_true (by omega); have d1 : decide ((c.toNat : Int) ≤ 90) = false:=decide_eq_false (by omega); have d2 : decide ((97 : Int) ≤ (c.toNat : Int)) = false:=decide_eq_false (by omega); have d3 : decide ((c.toNat : Int) ≤ 122) = true:=decide_eq_true (by omega); have d4 : decide ((c.toNat : Int) < 48) = false:=decide_eq_false (by omega); have d5 : decide ((57 : Int) < (c.toNat : Int)) = true:=decide_eq_true (by omega); have d7 : ((c.toNat : Int) != 95) = true:=bne_iff_ne.2 (by omega); have hfin:=hid (hno.out (by have h9:=noWd (c:=c) (by omega); unfold okV; split; exact noLet (by omega); exact h9)); clear hnx hno; by_cases h0 : k = 0
    ·have g0 : ((k : Int) == 0) = true:=by rw [h0]; rfl
     replace h0:=hid h0; clear hcc hcl
     go_wp2_with fail
     go_ret; exact ⟨by rw [hfin.out]; rfl,hB.out⟩
    ·have g0 : ((k : Int) == 0) = false:=beq_eq_false_iff_ne.2 (by omega)
     clear hcc hcl
     go_wp2_with fail
     go_ret; exact ⟨by rw [hfin.out]; rfl,hB.out⟩
   ·-- 95 .. 95
    have d0 : decide ((65 : Int) ≤ (c.toNat : Int)) = true:=decide_eq_true (by omega); have d1 : decide ((c.toNat : Int) ≤ 90) = false:=decide_eq_false (by omega); have d2 : decide ((97 : Int) ≤ (c.toNat : Int)) = false:=decide_eq_false (by omega); have d3 : decide ((c.toNat : Int) ≤ 122) = true:=decide_eq_true (by omega); have d4 : decide ((c.toNat : Int) < 48) = false:=decide_eq_false (by omega); have d5 : decide ((57 : Int) < (c.toNat : Int)) = true:=decide_eq_true (by omega)
    have d7 : ((c.toNat : Int) != 95) = false:=by rw [show (c.toNat : Int) = 95 by omega]; rfl
    by_cases h0 : k = 0
    ·have g0 : ((k : Int) == 0) = true:=by rw [h0]; rfl
     have hfin:=hid (hno.out (by unfold okV; rw [if_pos h0]; exact noLet (by omega))); replace h0:=hid h0; clear hnx hno; clear hcc hcl
     go_wp2_with fail
     go_ret; exact ⟨by rw [hfin.out]; rfl,hB.out⟩
    ·have g0 : ((k : Int) == 0) = false:=beq_eq_false_iff_ne.2 (by omega)
     have hnx2:=hid (hnx.out (by unfold okV; rw [if_neg h0]; exact wdB (by omega))); clear hnx hno; clear hcc hcl
     go_wp2_with fail
     exact ⟨⟨k + 1,by go_num,by omega,hnx2,hB⟩,by simp [intOf]; omega⟩
   ·-- 96 .. 96
    have d0 : decide ((65 : Int) ≤ (c.toNat : Int)) = true:=decide_eq_true (by omega); have d1 : decide ((c.toNat : Int) ≤ 90) = false:=decide_eq_false (by omega); have d2 : decide ((97 : Int) ≤ (c.toNat : Int)) = false:=decide_eq_false (by omega); have d3 : decide ((c.toNat : Int) ≤ 122) = true:=decide_eq_true (by omega); have d4 : decide ((c.toNat : Int) < 48) = false:=decide_eq_false (by omega); have d5 : decide ((57 : Int) < (c.toNat : Int)) = true:=decide_eq_true (by omega); have d7 : ((c.toNat : Int) != 95) = true:=bne_iff_ne.2 (by omega); have hfin:=hid (hno.out (by have h9:=noWd (c:=c) (by omega); unfold okV; split; exact noLet (by omega); exact h9)); clear hnx hno; by_cases h0 : k = 0
    ·have g0 : ((k : Int) == 0) = true:=by rw [h0]; rfl
     replace h0:=hid h0; clear hcc hcl
     go_wp2_with fail
     go_ret; exact ⟨by rw [hfin.out]; rfl,hB.out⟩
    ·have g0 : ((k : Int) == 0) = false:=beq_eq_false_iff_ne.2 (by omega)
     clear hcc hcl
     go_wp2_with fail
     go_ret; exact ⟨by rw [hfin.out]; rfl,hB.out⟩
   ·-- 97 .. 122
    have d0 : decide ((65 : Int) ≤ (c.toNat : Int)) = true:=decide_eq_true (by omega); have d1 : decide ((c.toNat : Int) ≤ 90) = false:=decide_eq_false (by omega); have d2 : decide ((97 : Int) ≤ (c.toNat : Int)) = true:=decide_eq_true (by omega); have d3 : decide ((c.toNat : Int) ≤ 122) = true:=decide_eq_true (by omega); have d4 : decide ((c.toNat : Int) < 48) = false:=decide_eq_false (by omega); have d5 : decide ((57 : Int) < (c.toNat : Int)) = true:=decide_eq_true (by omega); have d7 : ((c.toNat : Int) != 95) = true:=bne_iff_ne.2 (by omega); have hnx2:=hid (hnx.out (by have h9:=letB (c:=c) (by omega); unfold okV; split; exact h9; exact isWd_let h9)); clear hnx hno; clear hcc hcl
    go_wp2_with fail
    exact ⟨⟨k + 1,by go_num,by omega,hnx2,hB⟩,by simp [intOf]; omega⟩
   ·-- 123 .. 255
    have d0 : decide ((65 : Int) ≤ (c.toNat : Int)) = true:=decide_eq_true (by omega); have d1 : decide ((c.toNat : Int) ≤ 90) = false:=decide_eq_false (by omega); have d2 : decide ((97 : Int) ≤ (c.toNat : Int)) = true:=decide_eq_true (by omega); have d3 : decide ((c.toNat : Int) ≤ 122) = false:=decide_eq_false (by omega); have d4 : decide ((c.toNat : Int) < 48) = false:=decide_eq_false (by omega); have d5 : decide ((57 : Int) < (c.toNat : Int)) = true:=decide_eq_true (by omega); have d7 : ((c.toNat : Int) != 95) = true:=bne_iff_ne.2 (by omega); have hfin:=hid (hno.out (by have h9:=noWd (c:=c) (by omega); unfold okV; split; exact noLet (by omega); exact h9)); clear hnx hno; by_cases h0 : k = 0
    ·have g0 : ((k : Int) == 0) = true:=by rw [h0]; rfl
     replace h0:=hid h0; clear hcc hcl
     go_wp2_with fail
     go_ret; exact ⟨by rw [hfin.out]; rfl,hB.out⟩
    ·have g0 : ((k : Int) == 0) = false:=beq_eq_false_iff_ne.2 (by omega)
     clear hcc hcl
     go_wp2_with fail
     go_ret; exact ⟨by rw [hfin.out]; rfl,hB.out⟩
  ·have hkl : k = s.length:=by omega
   subst hkl; have q1 : decide ((s.length : Int) < (s.length : Int)) = false:=decide_eq_false (by omega); rcases s with _ | ⟨c,r⟩
   ·have hfin : res = false:=hres.out.symm
    subst hfin; clear hn hres
    go_wp2_with fail
    go_ret; exact ⟨rfl,hB.out⟩
   ·have hfin : res = !resB (c :: r):=hres.out.symm.trans (by unfold varF; rw [nm_yes hn.out]; rfl)
    have hne : ((c :: r) == []) = false:=rfl; have hcall:=hid (fun w=>reserved_any (c :: r) w); clear hn hres; replace hfin:=hid hfin
    go_wp2_with fail
    refine (hcall.out _).mono ?_; rintro e w1 ⟨rfl,rfl⟩
    go_wp2_with fail
    go_ret; exact ⟨by rw [hfin.out]; rfl,hB.out⟩
set_option maxHeartbeats 1000000 in
set_option maxRecDepth 100000 in
theorem isRelation_any (s : List UInt8) (w : World) (hs : s.length ≤ 1048576) : Calls Tryz.prog 62 #[sv s] w fun e w'=>e = .returned (.bool (relF s)) ∧ Below w.heap.size w w':=by
 have hcall:=hid (isVariable_any s w hs); obtain ⟨res,hres⟩ : ∃ res,relF s = res:=⟨_,rfl⟩; rw [hres]; obtain ⟨z,hz⟩ : ∃ z,varF s = z:=⟨_,rfl⟩; rw [hz] at hcall; unfold relF at hres; rw [hz] at hres
 cases z with
 | false =>
  replace hres:=hid (show false = res by simpa using hres)
  go_enter Tryz.func62,Tryz.ntmps62
  go_wp2_with fail
  with_reducible refine hcall.out.mono ?_
  rintro e w1 ⟨rfl,hb⟩
  go_wp2_with fail
  go_ret; exact ⟨by rw [← hres.out]; rfl,hb⟩
 | true =>
  rcases s with _ | ⟨c,r⟩
  ·exact absurd hz (by decide)
  ·have hx0:=idx_str0 (P:=Tryz.prog) 9 (by kernel_rfl) c r
   replace hz:=hid hz; obtain ⟨z1,h1⟩ : ∃ z,decide (97 ≤ c.toNat) = z:=⟨_,rfl⟩; obtain ⟨z2,h2⟩ : ∃ z,decide (c.toNat ≤ 122) = z:=⟨_,rfl⟩
   have hres2 : (z1 && z2) = res:=by rw [← h1,← h2]; simpa using hres
   have g1 : decide ((97 : Int) ≤ (c.toNat : Int)) = z1:=by rw [← h1]; exact decide_eq_decide.2 (by omega)
   have g2 : decide ((c.toNat : Int) ≤ 122) = z2:=by rw [← h2]; exact decide_eq_decide.2 (by omega)
   clear hres h1 h2; replace hres2:=hid hres2; cases z1 <;> cases z2
   all_goals
    go_enter Tryz.func62,Tryz.ntmps62
    go_wp2_with fail
    with_reducible refine hcall.out.mono ?_
    rintro e w1 ⟨rfl,hb⟩
    go_wp2_with fail
    go_ret; exact ⟨by rw [← hres2.out]; rfl,hb⟩
end Go.Proofs.YtbkdakbhagjkhaaGreatDoor
