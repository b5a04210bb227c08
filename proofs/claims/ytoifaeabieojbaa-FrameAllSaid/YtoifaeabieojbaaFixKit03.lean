/- Bytes by package fix's texts. -/
import Derived.Test.YtoifaeabieojbaaFixE
namespace Go.Proofs.Ytoifaeabieojbaa
end Go.Proofs.Ytoifaeabieojbaa
