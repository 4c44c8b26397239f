/- How tokens lie in the program's values. Condition: none. -/
import Derived.Test.YtapciiffpnociaaTab
import Derived.Test.YtapciiffpnociaaGxDo
import Derived.Test.YtapciiffpnociaaTokP
namespace Go.Proofs.Ytapciiffpnociaa
open Go Go.RowKit
def encTok (t : Tok) : List D := [.int .i64 t.kind, .int .i64 t.at_, .str t.text]
def encToks (l : List Tok) : D := .slice 3 (l.map encTok)
abbrev Fn (f : FuncId) (args : List SV) (R : SV → Prop) : Prop := FnP Try.prog tab tab_ok f args R
theorem byteAt (s : ByteArray) (i : Nat) (h : i < s.size) : s.data.toList[i]'(by simpa using h) = s[i]'h := by simp [ByteArray.getElem_eq_getElem_data]
end Go.Proofs.Ytapciiffpnociaa
