/- Parts of the proof: Kawb6. -/
import Derived.Test.YtcdiljebkpikbaaGreatS13
set_option linter.all false
set_option maxRecDepth 100000
set_option maxHeartbeats 64000000
namespace Go.Proofs.YtcdiljebkpikbaaGreat
section
set_option maxRecDepth 1000000
noncomputable section
namespace Kv
theorem awb4:zF Tryz.prog Sb [aPd,aPe,aPf,aPg] aPh=true:=by decide+kernel
theorem aOh:zF Tryz.prog Sb [] ao9=true:=by decide+kernel
theorem aOx:zF Tryz.prog Sb [] apq=true:=by decide+kernel
theorem aOC:zF Tryz.prog Sb [apu] apv=true:=by decide+kernel
theorem aOR:zF Tryz.prog Sb [] apK=true:=by decide+kernel
theorem aO0:zF Tryz.prog Sb [apS] apT=true:=by decide+kernel
theorem aCN:zF Tryz.prog Sb [apW,apY,apZ,ap0,ap5] acs=true:=by decide+kernel
end Kv
end
end
end Go.Proofs.YtcdiljebkpikbaaGreat
