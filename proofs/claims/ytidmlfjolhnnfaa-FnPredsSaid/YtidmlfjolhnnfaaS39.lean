/- OpText: contracts of the reference's and the program's function; is the input great. -/
import Derived.Test.YtidmlfjolhnnfaaXA
namespace Go.Lb
def opText (n : Int) : ByteArray := if n = 1 then ⟨#[60]⟩ else if n = 2 then ⟨#[60, 61]⟩ else if n = 3 then ⟨#[61]⟩ else if n = 4 then ⟨#[33, 61]⟩ else if n = 5 then ⟨#[62, 61]⟩ else if n = 6 then ⟨#[62]⟩ else ⟨#[]⟩
end Go.Lb
namespace Go.Proofs.Ytidmlfjolhnnfaa
open Go.ChangeShapes Go.WideShapes Go.ChangeAt Go.RowKit Go.Lb

end Go.Proofs.Ytidmlfjolhnnfaa
