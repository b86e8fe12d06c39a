/- strata: literals and rules behind rows of the call's own (as the writer reads them). -/
import Derived.Test.YtffdpoifdahadaaGreatDoorAskYe
import Derived.Test.YtffdpoifdahadaaGreatDoorAskT
set_option linter.unusedVariables false
set_option linter.unusedSimpArgs false
namespace Go.Proofs.YtffdpoifdahadaaGreatDoor
open Go.RowKit
open Go.Lib (hid)
theorem lgsPush {S S2:Foot} {w:World} {l m:List Lg} {v vs:Value} (h:OwnR 24 4 LgR S w l v) (hm:SlR 4 LgR S2 w m vs) (hS:∀ q,w.heap.size≤q→S q) (hS2:∀ q,S2 q→S q∧v.ownBlock≠some q) (hl:l.length+m.length≤1048576) :
  ∃ a c w',AppRun Tryz.prog 25 25 25 v vs (.slice a (l.length+m.length) c) w w'∧OwnR 24 4 LgR S w' (l++m) (.slice a (l.length+m.length) c)∧Fr (fun k=>v.ownBlock=some k) w w'∧((Value.slice a (l.length+m.length) c).ownBlock=v.ownBlock∨(Value.slice a (l.length+m.length) c).ownBlock=some w.heap.size):=by
 obtain ⟨i0,hi,hz0,hz1,hz2⟩:=info_parts infoLit; obtain ⟨news,g1,g2,g3⟩:=sl_row goodLg (by decide) hm; obtain ⟨v',w',h1,h2,h3,h4⟩:=OwnR.appendM (t:=25) (ty:=25) goodLg (by kernel_rfl) hi hz0 hz1 hz2 rfl (by decide) h g1 g2 (fun n y hy=>by obtain ⟨cs,k1,k2⟩:=g3 n y hy; exact ⟨cs,k1,goodLg.mono k2 fun k _ hk=>hS2 k hk⟩) (by unfold maxLen; omega) (by omega) hS; obtain ⟨a,c,rfl,-,-⟩:=h2.slice; rw [List.length_append] at h1 h2 h4; exact ⟨a,c,w',h1,h2,h3,h4⟩
theorem rgsPush {S S2:Foot} {w:World} {l m:List Rg} {v vs:Value} (h:OwnR 27 7 RgR S w l v) (hm:SlR 7 RgR S2 w m vs) (hS:∀ q,w.heap.size≤q→S q) (hS2:∀ q,S2 q→S q∧v.ownBlock≠some q) (hl:l.length+m.length≤1048576) :
  ∃ a c w',AppRun Tryz.prog 30 30 30 v vs (.slice a (l.length+m.length) c) w w'∧OwnR 27 7 RgR S w' (l++m) (.slice a (l.length+m.length) c)∧Fr (fun k=>v.ownBlock=some k) w w'∧((Value.slice a (l.length+m.length) c).ownBlock=v.ownBlock∨(Value.slice a (l.length+m.length) c).ownBlock=some w.heap.size):=by
 obtain ⟨i0,hi,hz0,hz1,hz2⟩:=info_parts infoRule; obtain ⟨news,g1,g2,g3⟩:=sl_row goodRg (by decide) hm; obtain ⟨v',w',h1,h2,h3,h4⟩:=OwnR.appendM (t:=30) (ty:=30) goodRg (by kernel_rfl) hi hz0 hz1 hz2 rfl (by decide) h g1 g2 (fun n y hy=>by obtain ⟨cs,k1,k2⟩:=g3 n y hy; exact ⟨cs,k1,goodRg.mono k2 fun k _ hk=>hS2 k hk⟩) (by unfold maxLen; omega) (by omega) hS; obtain ⟨a,c,rfl,-,-⟩:=h2.slice; rw [List.length_append] at h1 h2 h4; exact ⟨a,c,w',h1,h2,h3,h4⟩
end Go.Proofs.YtffdpoifdahadaaGreatDoor
