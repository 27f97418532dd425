/- Parts of the proof: Kawb15. -/
import Derived.Test.YtcdiljebkpikbaaGreatS13
set_option linter.all false
set_option maxRecDepth 100000
set_option maxHeartbeats 64000000
namespace Go.Proofs.YtcdiljebkpikbaaGreat
section
set_option maxRecDepth 1000000
noncomputable section
namespace Kv
theorem awb9:zF Tryz.prog Sb [] aPm=true:=by decide+kernel
theorem aNN:zF Tryz.prog Sb [] aoF=true:=by decide+kernel
theorem aNY:zF Tryz.prog Sb [aoP] aoQ=true:=by decide+kernel
theorem aN6:zF Tryz.prog Sb [] aoY=true:=by decide+kernel
theorem aOJ:zF Tryz.prog Sb [apA,apB] apC=true:=by decide+kernel
theorem aOM:zF Tryz.prog Sb [] apF=true:=by decide+kernel
end Kv
end
end
end Go.Proofs.YtcdiljebkpikbaaGreat
