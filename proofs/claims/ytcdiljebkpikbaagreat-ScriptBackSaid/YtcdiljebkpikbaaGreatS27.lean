/- Parts of the proof: Kawb14. -/
import Derived.Test.YtcdiljebkpikbaaGreatS13
set_option linter.all false
set_option maxRecDepth 100000
set_option maxHeartbeats 64000000
namespace Go.Proofs.YtcdiljebkpikbaaGreat
section
set_option maxRecDepth 1000000
noncomputable section
namespace Kv
theorem awb8:zF Tryz.prog Sb [aPk] aPl=true:=by decide+kernel
theorem aN5:zF Tryz.prog Sb [aoV,aoW] aoX=true:=by decide+kernel
theorem aOk:zF Tryz.prog Sb [ao9,apb] apc=true:=by decide+kernel
theorem aOB:zF Tryz.prog Sb [] apu=true:=by decide+kernel
theorem aOI:zF Tryz.prog Sb [] apB=true:=by decide+kernel
theorem aO7:zF Tryz.prog Sb [] ap0=true:=by decide+kernel
theorem aCP:zF Tryz.prog Sb [act] acu=true:=by decide+kernel
end Kv
end
end
end Go.Proofs.YtcdiljebkpikbaaGreat
