/- Parts of the proof: Kaw. -/
import Derived.Test.YtcdiljebkpikbaaGreatS14
import Derived.Test.YtcdiljebkpikbaaGreatS15
import Derived.Test.YtcdiljebkpikbaaGreatS16
import Derived.Test.YtcdiljebkpikbaaGreatS17
import Derived.Test.YtcdiljebkpikbaaGreatS18
import Derived.Test.YtcdiljebkpikbaaGreatS19
import Derived.Test.YtcdiljebkpikbaaGreatS20
import Derived.Test.YtcdiljebkpikbaaGreatS21
import Derived.Test.YtcdiljebkpikbaaGreatS22
import Derived.Test.YtcdiljebkpikbaaGreatS23
import Derived.Test.YtcdiljebkpikbaaGreatS24
import Derived.Test.YtcdiljebkpikbaaGreatS25
import Derived.Test.YtcdiljebkpikbaaGreatS26
import Derived.Test.YtcdiljebkpikbaaGreatS27
import Derived.Test.YtcdiljebkpikbaaGreatS28
import Derived.Test.YtcdiljebkpikbaaGreatS29
set_option linter.all false
set_option maxRecDepth 100000
set_option maxHeartbeats 64000000
namespace Go.Proofs.YtcdiljebkpikbaaGreat
section
set_option maxRecDepth 1000000
noncomputable section
namespace Kv
theorem aws0:zk Tryz.prog aPd:=zi ze zd zn EL.nil awb0
theorem aws1:zk Tryz.prog aPe:=zi ze zd zn EL.nil awb1
theorem aws2:zk Tryz.prog aPf:=zi ze zd zn EL.nil awb2
theorem aws3:zk Tryz.prog aPg:=zi ze zd zn EL.nil awb3
theorem aws4:zk Tryz.prog aPh:=zi ze zd zn (EL.cons aws0 (EL.cons aws1 (EL.cons aws2 (EL.cons aws3 EL.nil)))) awb4
theorem aws5:zk Tryz.prog aPi:=zi ze zd zn EL.nil awb5
theorem aws6:zk Tryz.prog aPj:=zi ze zd zn EL.nil awb6
theorem aws7:zk Tryz.prog aPk:=zi ze zd zn EL.nil awb7
theorem aws8:zk Tryz.prog aPl:=zi ze zd zn (EL.cons aws7 EL.nil) awb8
theorem aws9:zk Tryz.prog aPm:=zi ze zd zn EL.nil awb9
theorem aP1:zk Tryz.prog aoD:=zi ze zd zn (EL.cons aws9 EL.nil) aNL
theorem aP2:zk Tryz.prog aoE:=zi ze zd zn EL.nil aNM
theorem aP3:zk Tryz.prog aoF:=zi ze zd zn EL.nil aNN
theorem aP4:zk Tryz.prog aoG:=zi ze zd zn (EL.cons aP3 EL.nil) aNO
theorem aP5:zk Tryz.prog aoH:=zi ze zd zn (EL.cons aP4 EL.nil) aNP
theorem aP6:zk Tryz.prog aoI:=zi ze zd zn EL.nil aNQ
theorem aP7:zk Tryz.prog aoJ:=zi ze zd zn EL.nil aNR
theorem aP8:zk Tryz.prog aoK:=zi ze zd zn (EL.cons aP6 (EL.cons aP7 EL.nil)) aNS
theorem aP9:zk Tryz.prog aoL:=zi ze zd zn (EL.cons aP8 EL.nil) aNT
theorem aQa:zk Tryz.prog aoM:=zi ze zd zn (EL.cons aws6 (EL.cons aws8 (EL.cons aP1 (EL.cons aP2 (EL.cons aP5 (EL.cons aP9 EL.nil)))))) aNU
theorem aQb:zk Tryz.prog aoN:=zi ze zd zn EL.nil aNV
theorem aQc:zk Tryz.prog aoO:=zi ze zd zn EL.nil aNW
theorem aQd:zk Tryz.prog aoP:=zi ze zd zn EL.nil aNX
theorem aQe:zk Tryz.prog aoQ:=zi ze zd zn (EL.cons aQd EL.nil) aNY
theorem aQf:zk Tryz.prog aoR:=zi ze zd zn EL.nil aNZ
theorem aQg:zk Tryz.prog aoS:=zi ze zd zn EL.nil aN0
theorem aQh:zk Tryz.prog aoT:=zi ze zd zn (EL.cons aQg EL.nil) aN1
theorem aQi:zk Tryz.prog aoU:=zi ze zd zn EL.nil aN2
theorem aQj:zk Tryz.prog aoV:=zi ze zd zn EL.nil aN3
theorem aQk:zk Tryz.prog aoW:=zi ze zd zn EL.nil aN4
theorem aQl:zk Tryz.prog aoX:=zi ze zd zn (EL.cons aQj (EL.cons aQk EL.nil)) aN5
theorem aQm:zk Tryz.prog aoY:=zi ze zd zn EL.nil aN6
theorem aQn:zk Tryz.prog aoZ:=zi ze zd zn EL.nil aN7
theorem aQo:zk Tryz.prog ao0:=zi ze zd zn (EL.cons aQl (EL.cons aQm (EL.cons aQn EL.nil))) aN8
theorem aQp:zk Tryz.prog ao1:=zi ze zd zn (EL.cons aQo EL.nil) aN9
theorem aQq:zk Tryz.prog ao2:=zi ze zd zn (EL.cons aQc (EL.cons aQe (EL.cons aQf (EL.cons aQh (EL.cons aQi (EL.cons aQp EL.nil)))))) aOa
theorem aQr:zk Tryz.prog ao3:=zi ze zd zn EL.nil aOb
theorem aQs:zk Tryz.prog ao4:=zi ze zd zn EL.nil aOc
theorem aQt:zk Tryz.prog ao5:=zi ze zd zn EL.nil aOd
theorem aQu:zk Tryz.prog ao6:=zi ze zd zn (EL.cons aQt EL.nil) aOe
theorem aQv:zk Tryz.prog ao7:=zi ze zd zn EL.nil aOf
theorem aQw:zk Tryz.prog ao8:=zi ze zd zn EL.nil aOg
theorem aQx:zk Tryz.prog ao9:=zi ze zd zn EL.nil aOh
theorem aQy:zk Tryz.prog apa:=zi ze zd zn EL.nil aOi
theorem aQz:zk Tryz.prog apb:=zi ze zd zn (EL.cons aQy EL.nil) aOj
theorem aQA:zk Tryz.prog apc:=zi ze zd zn (EL.cons aQx (EL.cons aQz EL.nil)) aOk
theorem aQB:zk Tryz.prog apd:=zi ze zd zn (EL.cons aQA EL.nil) aOl
theorem aQC:zk Tryz.prog ape:=zi ze zd zn (EL.cons aQs (EL.cons aQu (EL.cons aQv (EL.cons aQw (EL.cons aQB EL.nil))))) aOm
theorem aQD:zk Tryz.prog apf:=zi ze zd zn EL.nil aOn
theorem aQE:zk Tryz.prog apg:=zi ze zd zn (EL.cons aQD EL.nil) aOo
theorem aQF:zk Tryz.prog aph:=zi ze zd zn (EL.cons aws5 (EL.cons aQa (EL.cons aQb (EL.cons aQq (EL.cons aQr (EL.cons aQC (EL.cons aQE EL.nil))))))) aOp
theorem aQG:zk Tryz.prog api:=zi ze zd zn (EL.cons aws4 (EL.cons aQF EL.nil)) aOq
theorem aQH:zk Tryz.prog apj:=zi ze zd zn (EL.cons aQG EL.nil) aOr
theorem aQI:zk Tryz.prog apk:=zi ze zd zn EL.nil aOs
theorem aQJ:zk Tryz.prog apl:=zi ze zd zn EL.nil aOt
theorem aQK:zk Tryz.prog apm:=zi ze zd zn EL.nil aOu
theorem aQL:zk Tryz.prog apn:=zi ze zd zn EL.nil aOv
theorem aQM:zk Tryz.prog apo:=zi ze zd zn (EL.cons aQI (EL.cons aQJ (EL.cons aQK (EL.cons aQL EL.nil)))) aOw
theorem aQN:zk Tryz.prog apq:=zi ze zd zn EL.nil aOx
theorem aQO:zk Tryz.prog apr:=zi ze zd zn EL.nil aOy
theorem aQP:zk Tryz.prog aps:=zi ze zd zn EL.nil aOz
theorem aQQ:zk Tryz.prog apt:=zi ze zd zn (EL.cons aQP EL.nil) aOA
theorem aQR:zk Tryz.prog apu:=zi ze zd zn EL.nil aOB
theorem aQS:zk Tryz.prog apv:=zi ze zd zn (EL.cons aQR EL.nil) aOC
theorem aQT:zk Tryz.prog apw:=zi ze zd zn EL.nil aOD
theorem aQU:zk Tryz.prog apx:=zi ze zd zn EL.nil aOE
theorem aQV:zk Tryz.prog apy:=zi ze zd zn (EL.cons aQU EL.nil) aOF
theorem aQW:zk Tryz.prog apz:=zi ze zd zn (EL.cons aQV EL.nil) aOG
theorem aQX:zk Tryz.prog apA:=zi ze zd zn EL.nil aOH
theorem aQY:zk Tryz.prog apB:=zi ze zd zn EL.nil aOI
theorem aQZ:zk Tryz.prog apC:=zi ze zd zn (EL.cons aQX (EL.cons aQY EL.nil)) aOJ
theorem aQ0:zk Tryz.prog apD:=zi ze zd zn (EL.cons aQZ EL.nil) aOK
theorem aQ1:zk Tryz.prog apE:=zi ze zd zn (EL.cons aQO (EL.cons aQQ (EL.cons aQS (EL.cons aQT (EL.cons aQW (EL.cons aQ0 EL.nil)))))) aOL
theorem aQ2:zk Tryz.prog apF:=zi ze zd zn EL.nil aOM
theorem aQ3:zk Tryz.prog apG:=zi ze zd zn EL.nil aON
theorem aQ4:zk Tryz.prog apH:=zi ze zd zn EL.nil aOO
theorem aQ5:zk Tryz.prog apI:=zi ze zd zn (EL.cons aQ4 EL.nil) aOP
theorem aQ6:zk Tryz.prog apJ:=zi ze zd zn EL.nil aOQ
theorem aQ7:zk Tryz.prog apK:=zi ze zd zn EL.nil aOR
theorem aQ8:zk Tryz.prog apL:=zi ze zd zn (EL.cons aQ7 EL.nil) aOS
theorem aQ9:zk Tryz.prog apM:=zi ze zd zn EL.nil aOT
theorem aRa:zk Tryz.prog apN:=zi ze zd zn EL.nil aOU
theorem aRb:zk Tryz.prog apO:=zi ze zd zn EL.nil aOV
theorem aRc:zk Tryz.prog apP:=zi ze zd zn (EL.cons aRa (EL.cons aRb EL.nil)) aOW
theorem aRd:zk Tryz.prog apQ:=zi ze zd zn EL.nil aOX
theorem aRe:zk Tryz.prog apR:=zi ze zd zn EL.nil aOY
theorem aRf:zk Tryz.prog apS:=zi ze zd zn (EL.cons aRc (EL.cons aRd (EL.cons aRe EL.nil))) aOZ
theorem aRg:zk Tryz.prog apT:=zi ze zd zn (EL.cons aRf EL.nil) aO0
theorem aRh:zk Tryz.prog apU:=zi ze zd zn (EL.cons aQ3 (EL.cons aQ5 (EL.cons aQ6 (EL.cons aQ8 (EL.cons aQ9 (EL.cons aRg EL.nil)))))) aO1
theorem aRi:zk Tryz.prog apV:=zi ze zd zn EL.nil aO2
theorem aRj:zk Tryz.prog apW:=zi ze zd zn EL.nil aO3
theorem aRk:zk Tryz.prog apX:=zi ze zd zn EL.nil aO4
theorem aRl:zk Tryz.prog apY:=zi ze zd zn (EL.cons aRk EL.nil) aO5
theorem aRm:zk Tryz.prog apZ:=zi ze zd zn EL.nil aO6
theorem aRn:zk Tryz.prog ap0:=zi ze zd zn EL.nil aO7
theorem aRo:zk Tryz.prog ap1:=zi ze zd zn EL.nil aO8
theorem aRp:zk Tryz.prog ap2:=zi ze zd zn EL.nil aO9
theorem aRq:zk Tryz.prog ap3:=zi ze zd zn (EL.cons aRp EL.nil) aPa
theorem aRr:zk Tryz.prog ap4:=zi ze zd zn (EL.cons aRo (EL.cons aRq EL.nil)) aPb
theorem aRs:zk Tryz.prog ap5:=zi ze zd zn (EL.cons aRr EL.nil) aPc
theorem aLT:zk Tryz.prog acs:=zi ze zd zn (EL.cons aRj (EL.cons aRl (EL.cons aRm (EL.cons aRn (EL.cons aRs EL.nil))))) aCN
theorem aLU:zk Tryz.prog act:=zi ze zd zn EL.nil aCO
theorem aLV:zk Tryz.prog acu:=zi ze zd zn (EL.cons aLU EL.nil) aCP
theorem aLW:zk Tryz.prog acv:=zi ze zd zn (EL.cons aQN (EL.cons aQ1 (EL.cons aQ2 (EL.cons aRh (EL.cons aRi (EL.cons aLT (EL.cons aLV EL.nil))))))) aCQ
theorem aLX:zk Tryz.prog acw:=zi ze zd zn (EL.cons aQM (EL.cons aLW EL.nil)) aCR
theorem aLY:zk Tryz.prog acx:=zi ze zd zn (EL.cons aQH (EL.cons aLX EL.nil)) aCS
theorem awtop:zk Tryz.prog acx:=aLY
end Kv
end
end
end Go.Proofs.YtcdiljebkpikbaaGreat
