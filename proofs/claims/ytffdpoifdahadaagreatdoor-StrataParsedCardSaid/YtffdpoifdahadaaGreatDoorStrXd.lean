/- StrXd: AskFw, AskFx, StrXd, in one text. -/
import Derived.Test.YtffdpoifdahadaaGreatDoorAskYe
import Derived.Test.YtffdpoifdahadaaGreatDoorAskYh
import Derived.Test.YtffdpoifdahadaaGreatDoorStrWi
set_option linter.unusedVariables false
set_option linter.unusedSimpArgs false
namespace Go.Proofs.YtffdpoifdahadaaGreatDoor
open Go.RowKit
open Go.Lib (hid byteCells itoa)
def TmR (t:Tg):Prop:=t.var.length<=140737488355328/\t.vs.length<=140737488355328/\t.vt.length<=140737488355328/\t.ln<=140737488355328
end Go.Proofs.YtffdpoifdahadaaGreatDoor
set_option linter.unusedSimpArgs false
namespace Go.Proofs.YtffdpoifdahadaaGreatDoor
open Go.RowKit
open Go.Lib (hid byteCells itoa)
def TmM (t:Tg):Prop:=t.var.length<=1048576/\t.vs.length<=1048576/\t.vt.length<=1048576/\t.ln<=1048576
theorem TmM.r {t:Tg} (h:TmM t):TmR t:=⟨by have:=h.1; omega,by have:=h.2.1; omega,by have:=h.2.2.1; omega,by have:=h.2.2.2; omega⟩
end Go.Proofs.YtffdpoifdahadaaGreatDoor
set_option linter.unusedSimpArgs false
namespace Go.Proofs.YtffdpoifdahadaaGreatDoor
open Go.RowKit
open Go.Lib (hid)
end Go.Proofs.YtffdpoifdahadaaGreatDoor
