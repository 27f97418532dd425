/- Parts of the proof: Kawb9. -/
import Derived.Test.YtcdiljebkpikbaaGreatS13
set_option linter.all false
set_option maxRecDepth 100000
set_option maxHeartbeats 64000000
namespace Go.Proofs.YtcdiljebkpikbaaGreat
section
set_option maxRecDepth 1000000
noncomputable section
namespace Kv
theorem aNO:zF Tryz.prog Sb [aoF] aoG=true:=by decide+kernel
theorem aN4:zF Tryz.prog Sb [] aoW=true:=by decide+kernel
theorem aOf:zF Tryz.prog Sb [] ao7=true:=by decide+kernel
theorem aOz:zF Tryz.prog Sb [] aps=true:=by decide+kernel
theorem aON:zF Tryz.prog Sb [] apG=true:=by decide+kernel
theorem aCR:zF Tryz.prog Sb [apo,acv] acw=true:=by decide+kernel
end Kv
end
end
end Go.Proofs.YtcdiljebkpikbaaGreat
