/- Parts of the proof: Kawb16. -/
import Derived.Test.YtcdiljebkpikbaaGreatS13
set_option linter.all false
set_option maxRecDepth 100000
set_option maxHeartbeats 64000000
namespace Go.Proofs.YtcdiljebkpikbaaGreat
section
set_option maxRecDepth 1000000
noncomputable section
namespace Kv
theorem aNL:zF Tryz.prog Sb [aPm] aoD=true:=by decide+kernel
theorem aNS:zF Tryz.prog Sb [aoI,aoJ] aoK=true:=by decide+kernel
theorem aOb:zF Tryz.prog Sb [] ao3=true:=by decide+kernel
theorem aOo:zF Tryz.prog Sb [apf] apg=true:=by decide+kernel
theorem aOE:zF Tryz.prog Sb [] apx=true:=by decide+kernel
theorem aOH:zF Tryz.prog Sb [] apA=true:=by decide+kernel
theorem aOX:zF Tryz.prog Sb [] apQ=true:=by decide+kernel
end Kv
end
end
end Go.Proofs.YtcdiljebkpikbaaGreat
