/- A part of the proof. -/
import Derived.Test.YtbmkfjmlepjpfaaGreatDoorWk
import Derived.Test.YtbmkfjmlepjpfaaGreatDoorIr
import Derived.KernelRfl
set_option linter.all false
set_option maxRecDepth 100000
namespace Go.Proofs.YtbmkfjmlepjpfaaGreatDoor
variable {xs:List X} {x:X}
theorem q92g(hn:xs.length<=44)(h:wp T [.code q92B] (bn xs) s0 (fun e s=>aC e s [.tmp 6]=some x)):call T YL xs=some x:=ak (by kernel_rfl) hn h
theorem q95g(hn:xs.length<=8)(h:wp T [.code q95B] (bn xs) s0 (fun e s=>aC e s [.cell 2 3 true]=some x)):call T YN xs=some x:=ak (by kernel_rfl) hn h
theorem q161g(hn:xs.length<=23)(h:wp T [.code aa6] (bn xs) s0 (fun e s=>aC e s [.tmp 6,.tmp 7]=some x)):call T KG xs=some x:=ak (by kernel_rfl) hn h
theorem q39g(hn:xs.length<=24)(h:wp T [.code q39B] (bn xs) s0 (fun e s=>aC e s [.tmp 6,.tmp 7]=some x)):call T M5 xs=some x:=ak (by kernel_rfl) hn h
theorem q91g(hn:xs.length<=45)(h:wp T [.code q91B] (bn xs) s0 (fun e s=>aC e s [.tmp 4]=some x)):call T YK xs=some x:=ak (by kernel_rfl) hn h
theorem q203g(hn:xs.length<=19)(h:wp T [.code QF] (bn xs) s0 (fun e s=>aC e s [.cell 4 3 true,.tmp 5]=some x)):call T zG xs=some x:=ak (by kernel_rfl) hn h
theorem q166g(hn:xs.length<=20)(h:wp T [.code abb] (bn xs) s0 (fun e s=>aC e s [.tmp 6]=some x)):call T KJ xs=some x:=ak (by kernel_rfl) hn h
theorem q162g(hn:xs.length<=14)(h:wp T [.code aa7] (bn xs) s0 (fun e s=>aC e s [.tmp 6]=some x)):call T uG xs=some x:=ak (by kernel_rfl) hn h
theorem q155g(hn:xs.length<=14)(h:wp T [.code aaZ] (bn xs) s0 (fun e s=>aC e s [.cell 4 3 true]=some x)):call T KC xs=some x:=ak (by kernel_rfl) hn h
theorem q61g(hn:xs.length<=30)(h:wp T [.code q61B] (bn xs) s0 (fun e s=>aC e s [.cell 6 4 true,.tmp 7]=some x)):call T QY xs=some x:=ak (by kernel_rfl) hn h
theorem q70g(hn:xs.length<=120)(h:wp T [.code q70B] (bn xs) s0 (fun e s=>aC e s [.tmp 4]=some x)):call T Df xs=some x:=ak (by kernel_rfl) hn h
theorem q154g(hn:xs.length<=15)(h:wp T [.code aaY] (bn xs) s0 (fun e s=>aC e s [.tmp 2]=some x)):call T FD xs=some x:=ak (by kernel_rfl) hn h
theorem q165g(hn:xs.length<=41)(h:wp T [.code aa_] (bn xs) s0 (fun e s=>aC e s [.tmp 4]=some x)):call T KI xs=some x:=ak (by kernel_rfl) hn h
theorem q153g(hn:xs.length<=72)(h:wp T [.code aaX] (bn xs) s0 (fun e s=>aC e s [.tmp 4]=some x)):call T KA xs=some x:=ak (by kernel_rfl) hn h
theorem q56g(hn:xs.length<=6)(h:wp T [.code q56B] (bn xs) s0 (fun e s=>aC e s [.tmp 2]=some x)):call T M8 xs=some x:=ak (by kernel_rfl) hn h
theorem q45g(hn:xs.length<=37)(h:wp T [.code q45B] (bn xs) s0 (fun e s=>aC e s [.tmp 4]=some x)):call T QX xs=some x:=ak (by kernel_rfl) hn h
theorem q202g(hn:xs.length<=60)(h:wp T [.code abK] (bn xs) s0 (fun e s=>aC e s [.tmp 4]=some x)):call T BJ xs=some x:=ak (by kernel_rfl) hn h
theorem q115g(hn:xs.length<=17)(h:wp T [.code aam] (bn xs) s0 (fun e s=>aC e s [.tmp 2]=some x)):call T zq xs=some x:=ak (by kernel_rfl) hn h
theorem q144g(hn:xs.length<=28)(h:wp T [.code aaO] (bn xs) s0 (fun e s=>aC e s [.tmp 2]=some x)):call T Kq xs=some x:=ak (by kernel_rfl) hn h
theorem q132g(hn:xs.length<=65)(h:wp T [.code aaB] (bn xs) s0 (fun e s=>aC e s [.tmp 2]=some x)):call T Fy xs=some x:=ak (by kernel_rfl) hn h
theorem q123g(hn:xs.length<=84)(h:wp T [.code PN] (bn xs) s0 (fun e s=>aC e s [.tmp 2]=some x)):call T wK xs=some x:=ak (by kernel_rfl) hn h
theorem q209g(hn:xs.length<=21)(h:wp T [.code abP] (bn xs) s0 (fun e s=>aC e s [.tmp 4]=some x)):call T BK xs=some x:=ak (by kernel_rfl) hn h
theorem uH(hn:xs.length<=167)(h:wp T [.code abh] (bn xs) s0 (fun e s=>aC e s [.tmp 6]=some x)):call T KO xs=some x:=ak (by kernel_rfl) hn h
theorem q156g(hn:xs.length<=67)(h:wp T [.code aa0] (bn xs) s0 (fun e s=>aC e s [.cell 4 3 true,.tmp 5]=some x)):call T KD xs=some x:=ak (by kernel_rfl) hn h
theorem q73g(hn:xs.length<=40)(h:wp T [.code q73B] (bn xs) s0 (fun e s=>aC e s [.tmp 4]=some x)):call T YF xs=some x:=ak (by kernel_rfl) hn h
theorem q42g(hn:xs.length<=14)(h:wp T [.code q42B] (bn xs) s0 (fun e s=>aC e s [.tmp 2,.tmp 3]=some x)):call T uJ xs=some x:=ak (by kernel_rfl) hn h
theorem q79g(hn:xs.length<=21)(h:wp T [.code q79B] (bn xs) s0 (fun e s=>aC e s [.tmp 4]=some x)):call T AL xs=some x:=ak (by kernel_rfl) hn h
theorem q219g(hn:xs.length<=14)(h:wp T [.code abX] (bn xs) s0 (fun e s=>aC e s [.tmp 4]=some x)):call T jv xs=some x:=ak (by kernel_rfl) hn h
theorem q72g(hn:xs.length<=83)(h:wp T [.code q72B] (bn xs) s0 (fun e s=>aC e s [.tmp 4]=some x)):call T YD xs=some x:=ak (by kernel_rfl) hn h
theorem q130g(hn:xs.length<=33)(h:wp T [.code aaz] (bn xs) s0 (fun e s=>aC e s [.tmp 6,.tmp 7]=some x)):call T Fw xs=some x:=ak (by kernel_rfl) hn h
theorem q167g(hn:xs.length<=21)(h:wp T [.code abd] (bn xs) s0 (fun e s=>aC e s [.tmp 2]=some x)):call T zC xs=some x:=ak (by kernel_rfl) hn h
theorem q159g(hn:xs.length<=9)(h:wp T [.code aa3] (bn xs) s0 (fun e s=>aC e s [.tmp 2]=some x)):call T wN xs=some x:=ak (by kernel_rfl) hn h
theorem QC(hn:xs.length<=9)(h:wp T [.code abB] (bn xs) s0 (fun e s=>aC e s [.tmp 4]=some x)):call T qX xs=some x:=ak (by kernel_rfl) hn h
theorem q57g(hn:xs.length<=5)(h:wp T [.code q57B] (bn xs) s0 (fun e s=>aC e s [.tmp 2]=some x)):call T M9 xs=some x:=ak (by kernel_rfl) hn h
theorem q2g(hn:xs.length<=27)(h:wp T [.code q2B] (bn xs) s0 (fun e s=>aC e s [.tmp 6,.tmp 7]=some x)):call T q2n xs=some x:=ak (by kernel_rfl) hn h
theorem q63g(hn:xs.length<=12)(h:wp T [.code q63B] (bn xs) s0 (fun e s=>aC e s [.tmp 2]=some x)):call T Io xs=some x:=ak (by kernel_rfl) hn h
theorem q43g(hn:xs.length<=41)(h:wp T [.code q43B] (bn xs) s0 (fun e s=>aC e s [.tmp 2,.tmp 3,.tmp 4]=some x)):call T M6 xs=some x:=ak (by kernel_rfl) hn h
theorem q102g(hn:xs.length<=46)(h:wp T [.code Z_] (bn xs) s0 (fun e s=>aC e s [.tmp 2]=some x)):call T BF xs=some x:=ak (by kernel_rfl) hn h
theorem q212g(hn:xs.length<=6)(h:wp T [.code abR] (bn xs) s0 (fun e s=>aC e s [.tmp 2]=some x)):call T BL xs=some x:=ak (by kernel_rfl) hn h
theorem q215g(hn:xs.length<=18)(h:wp T [.code abT] (bn xs) s0 (fun e s=>aC e s [.tmp 2]=some x)):call T zJ xs=some x:=ak (by kernel_rfl) hn h
theorem q221g(hn:xs.length<=37)(h:wp T [.code abZ] (bn xs) s0 (fun e s=>aC e s [.tmp 2]=some x)):call T zK xs=some x:=ak (by kernel_rfl) hn h
theorem q142g(hn:xs.length<=12)(h:wp T [.code aaM] (bn xs) s0 (fun e s=>aC e s [.tmp 4]=some x)):call T wL xs=some x:=ak (by kernel_rfl) hn h
theorem q133g(hn:xs.length<=45)(h:wp T [.code aaC] (bn xs) s0 (fun e s=>aC e s [.tmp 2]=some x)):call T zw xs=some x:=ak (by kernel_rfl) hn h
theorem q135g(hn:xs.length<=112)(h:wp T [.code aaE] (bn xs) s0 (fun e s=>aC e s [.tmp 2]=some x)):call T Ki xs=some x:=ak (by kernel_rfl) hn h
theorem q129g(hn:xs.length<=14)(h:wp T [.code aay] (bn xs) s0 (fun e s=>aC e s [.tmp 2]=some x)):call T Kg xs=some x:=ak (by kernel_rfl) hn h
theorem q139g(hn:xs.length<=87)(h:wp T [.code aaI] (bn xs) s0 (fun e s=>aC e s [.tmp 2]=some x)):call T Km xs=some x:=ak (by kernel_rfl) hn h
theorem q140g(hn:xs.length<=71)(h:wp T [.code aaK] (bn xs) s0 (fun e s=>aC e s [.tmp 2]=some x)):call T FB xs=some x:=ak (by kernel_rfl) hn h
theorem q124g(hn:xs.length<=36)(h:wp T [.code aat] (bn xs) s0 (fun e s=>aC e s [.tmp 2]=some x)):call T pU xs=some x:=ak (by kernel_rfl) hn h
theorem q149g(hn:xs.length<=35)(h:wp T [.code aaT] (bn xs) s0 (fun e s=>aC e s [.tmp 4,.tmp 5]=some x)):call T Kw xs=some x:=ak (by kernel_rfl) hn h
theorem Ku(hn:xs.length<=26)(h:wp T [.code aaS] (bn xs) s0 (fun e s=>aC e s [.tmp 4]=some x)):call T Kv xs=some x:=ak (by kernel_rfl) hn h
theorem q146g(hn:xs.length<=95)(h:wp T [.code aaQ] (bn xs) s0 (fun e s=>aC e s [.tmp 4]=some x)):call T Kr xs=some x:=ak (by kernel_rfl) hn h
theorem q137g(hn:xs.length<=65)(h:wp T [.code aaG] (bn xs) s0 (fun e s=>aC e s [.tmp 6,.tmp 7]=some x)):call T Kj xs=some x:=ak (by kernel_rfl) hn h
theorem q125g(hn:xs.length<=23)(h:wp T [.code aau] (bn xs) s0 (fun e s=>aC e s [.tmp 4]=some x)):call T Ka xs=some x:=ak (by kernel_rfl) hn h
theorem qW(hn:xs.length<=65)(h:wp T [.code aaR] (bn xs) s0 (fun e s=>aC e s [.tmp 8,.tmp 9]=some x)):call T Kt xs=some x:=ak (by kernel_rfl) hn h
theorem q208g(hn:xs.length<=32)(h:wp T [.code abO] (bn xs) s0 (fun e s=>aC e s [.tmp 4]=some x)):call T FJ xs=some x:=ak (by kernel_rfl) hn h
theorem q220g(hn:xs.length<=22)(h:wp T [.code abY] (bn xs) s0 (fun e s=>aC e s [.tmp 4]=some x)):call T m_ xs=some x:=ak (by kernel_rfl) hn h
theorem q170g(hn:xs.length<=39)(h:wp T [.code abg] (bn xs) s0 (fun e s=>aC e s [.tmp 4]=some x)):call T KN xs=some x:=ak (by kernel_rfl) hn h
theorem q160g(hn:xs.length<=13)(h:wp T [.code aa5] (bn xs) s0 (fun e s=>aC e s [.tmp 2]=some x)):call T jb xs=some x:=ak (by kernel_rfl) hn h
theorem q157g(hn:xs.length<=13)(h:wp T [.code aa1] (bn xs) s0 (fun e s=>aC e s [.tmp 4]=some x)):call T uD xs=some x:=ak (by kernel_rfl) hn h
theorem q99g(hn:xs.length<=18)(h:wp T [.code q99B] (bn xs) s0 (fun e s=>aC e s [.tmp 4]=some x)):call T Nb xs=some x:=ak (by kernel_rfl) hn h
theorem q163g(hn:xs.length<=65)(h:wp T [.code aa8] (bn xs) s0 (fun e s=>aC e s [.tmp 2,.tmp 3,.cell 4 3 true]=some x)):call T KH xs=some x:=ak (by kernel_rfl) hn h
theorem q169g(hn:xs.length<=74)(h:wp T [.code abf] (bn xs) s0 (fun e s=>aC e s [.tmp 10]=some x)):call T KM xs=some x:=ak (by kernel_rfl) hn h
theorem q173g(hn:xs.length<=40)(h:wp T [.code abk] (bn xs) s0 (fun e s=>aC e s [.tmp 2,.tmp 3]=some x)):call T KQ xs=some x:=ak (by kernel_rfl) hn h
theorem q172g(hn:xs.length<=59)(h:wp T [.code abj] (bn xs) s0 (fun e s=>aC e s [.tmp 10]=some x)):call T KP xs=some x:=ak (by kernel_rfl) hn h
theorem q158g(hn:xs.length<=46)(h:wp T [.code aa2] (bn xs) s0 (fun e s=>aC e s [.cell 6 5 true]=some x)):call T KF xs=some x:=ak (by kernel_rfl) hn h
theorem q101g(hn:xs.length<=24)(h:wp T [.code Z9] (bn xs) s0 (fun e s=>aC e s [.tmp 4]=some x)):call T BD xs=some x:=ak (by kernel_rfl) hn h
theorem q222g(hn:xs.length<=6)(h:wp T [.code ab0] (bn xs) s0 (fun e s=>aC e s [.tmp 2]=some x)):call T zL xs=some x:=ak (by kernel_rfl) hn h
theorem q41g(hn:xs.length<=65)(h:wp T [.code q41B] (bn xs) s0 (fun e s=>aC e s [.cell 2 5 true,.tmp 3]=some x)):call T QW xs=some x:=ak (by kernel_rfl) hn h
theorem q71g(hn:xs.length<=137)(h:wp T [.code q71B] (bn xs) s0 (fun e s=>aC e s [.tmp 4]=some x)):call T YB xs=some x:=ak (by kernel_rfl) hn h
theorem q175g(hn:xs.length<=60)(h:wp T [.code abm] (bn xs) s0 (fun e s=>aC e s [.cell 6 5 true]=some x)):call T KS xs=some x:=ak (by kernel_rfl) hn h
theorem q44g(hn:xs.length<=9)(h:wp T [.code q44B] (bn xs) s0 (fun e s=>aC e s [.tmp 2]=some x)):call T M7 xs=some x:=ak (by kernel_rfl) hn h
theorem q62g(hn:xs.length<=52)(h:wp T [.code q62B] (bn xs) s0 (fun e s=>aC e s [.tmp 6,.tmp 7,.tmp 8]=some x)):call T QZ xs=some x:=ak (by kernel_rfl) hn h
theorem q136g(hn:xs.length<=108)(h:wp T [.code aaF] (bn xs) s0 (fun e s=>aC e s [.tmp 6,.tmp 7]=some x)):call T zx xs=some x:=ak (by kernel_rfl) hn h
theorem QD(hn:xs.length<=19)(h:wp T [.code abF] (bn xs) s0 (fun e s=>aC e s [.tmp 4]=some x)):call T BI xs=some x:=ak (by kernel_rfl) hn h
theorem q28g(hn:xs.length<=29)(h:wp T [.code q28B] (bn xs) s0 (fun e s=>aC e s [.tmp 6]=some x)):call T QS xs=some x:=ak (by kernel_rfl) hn h
theorem q4g(hn:xs.length<=7)(h:wp T [.code q4B] (bn xs) s0 (fun e s=>aC e s [.tmp 2]=some x)):call T q4n xs=some x:=ak (by kernel_rfl) hn h
theorem q17g(hn:xs.length<=94)(h:wp T [.code q17B] (bn xs) s0 (fun e s=>aC e s [.tmp 2]=some x)):call T uI xs=some x:=ak (by kernel_rfl) hn h
theorem q14g(hn:xs.length<=133)(h:wp T [.code q14B] (bn xs) s0 (fun e s=>aC e s [.tmp 6,.tmp 7]=some x)):call T Ik xs=some x:=ak (by kernel_rfl) hn h
theorem q194g(hn:xs.length<=9)(h:wp T [.code abA] (bn xs) s0 (fun e s=>aC e s [.tmp 4]=some x)):call T KU xs=some x:=ak (by kernel_rfl) hn h
theorem q16g(hn:xs.length<=88)(h:wp T [.code q16B] (bn xs) s0 (fun e s=>aC e s [.tmp 2]=some x)):call T zD xs=some x:=ak (by kernel_rfl) hn h
theorem q100g(hn:xs.length<=24)(h:wp T [.code Z8] (bn xs) s0 (fun e s=>aC e s [.tmp 4]=some x)):call T Fs xs=some x:=ak (by kernel_rfl) hn h
theorem q213g(hn:xs.length<=5)(h:wp T [.code abS] (bn xs) s0 (fun e s=>aC e s [.tmp 2]=some x)):call T KX xs=some x:=ak (by kernel_rfl) hn h
theorem q126g(hn:xs.length<=13)(h:wp T [.code aav] (bn xs) s0 (fun e s=>aC e s [.tmp 2]=some x)):call T Kb xs=some x:=ak (by kernel_rfl) hn h
theorem q143g(hn:xs.length<=9)(h:wp T [.code aaN] (bn xs) s0 (fun e s=>aC e s [.tmp 2]=some x)):call T Ko xs=some x:=ak (by kernel_rfl) hn h
theorem q145g(hn:xs.length<=9)(h:wp T [.code aaP] (bn xs) s0 (fun e s=>aC e s [.tmp 2]=some x)):call T pV xs=some x:=ak (by kernel_rfl) hn h
theorem q138g(hn:xs.length<=108)(h:wp T [.code aaH] (bn xs) s0 (fun e s=>aC e s [.tmp 2]=some x)):call T Kl xs=some x:=ak (by kernel_rfl) hn h
theorem q128g(hn:xs.length<=35)(h:wp T [.code aax] (bn xs) s0 (fun e s=>aC e s [.tmp 4]=some x)):call T Fv xs=some x:=ak (by kernel_rfl) hn h
theorem q121g(hn:xs.length<=16)(h:wp T [.code aar] (bn xs) s0 (fun e s=>aC e s [.tmp 4]=some x)):call T wJ xs=some x:=ak (by kernel_rfl) hn h
theorem q141g(hn:xs.length<=59)(h:wp T [.code aaL] (bn xs) s0 (fun e s=>aC e s [.tmp 4]=some x)):call T Kn xs=some x:=ak (by kernel_rfl) hn h
theorem q150g(hn:xs.length<=42)(h:wp T [.code aaU] (bn xs) s0 (fun e s=>aC e s [.tmp 4,.tmp 5]=some x)):call T Kz xs=some x:=ak (by kernel_rfl) hn h
theorem q179g(hn:xs.length<=51)(h:wp T [.code abo] (bn xs) s0 (fun e s=>aC e s [.tmp 4,.tmp 5]=some x)):call T KT xs=some x:=ak (by kernel_rfl) hn h
theorem q98g(hn:xs.length<=8)(h:wp T [.code q98B] (bn xs) s0 (fun e s=>aC e s [.tmp 2]=some x)):call T Iq xs=some x:=ak (by kernel_rfl) hn h
theorem q164g(hn:xs.length<=11)(h:wp T [.code aa9] (bn xs) s0 (fun e s=>aC e s [.tmp 2]=some x)):call T FH xs=some x:=ak (by kernel_rfl) hn h
theorem q174g(hn:xs.length<=13)(h:wp T [.code abl] (bn xs) s0 (fun e s=>aC e s [.tmp 2]=some x)):call T KR xs=some x:=ak (by kernel_rfl) hn h
theorem q168g(hn:xs.length<=59)(h:wp T [.code abe] (bn xs) s0 (fun e s=>aC e s [.tmp 6]=some x)):call T KL xs=some x:=ak (by kernel_rfl) hn h
theorem q152g(hn:xs.length<=30)(h:wp T [.code aaW] (bn xs) s0 (fun e s=>aC e s [.tmp 4]=some x)):call T wM xs=some x:=ak (by kernel_rfl) hn h
theorem q151g(hn:xs.length<=47)(h:wp T [.code aaV] (bn xs) s0 (fun e s=>aC e s [.tmp 8,.tmp 9]=some x)):call T FC xs=some x:=ak (by kernel_rfl) hn h
theorem q110g(hn:xs.length<=66)(h:wp T [.code aah] (bn xs) s0 (fun e s=>aC e s [.tmp 4,.tmp 5]=some x)):call T J3 xs=some x:=ak (by kernel_rfl) hn h
theorem q9g(hn:xs.length<=18)(h:wp T [.code q9B] (bn xs) s0 (fun e s=>aC e s [.tmp 4]=some x)):call T q9n xs=some x:=ak (by kernel_rfl) hn h
theorem q29g(hn:xs.length<=5)(h:wp T [.code q29B] (bn xs) s0 (fun e s=>aC e s [.tmp 2]=some x)):call T QT xs=some x:=ak (by kernel_rfl) hn h
theorem q36g(hn:xs.length<=15)(h:wp T [.code q36B] (bn xs) s0 (fun e s=>aC e s [.tmp 2]=some x)):call T FL xs=some x:=ak (by kernel_rfl) hn h
theorem q7g(hn:xs.length<=18)(h:wp T [.code q7B] (bn xs) s0 (fun e s=>aC e s [.tmp 4]=some x)):call T Q5 xs=some x:=ak (by kernel_rfl) hn h
theorem q10g(hn:xs.length<=18)(h:wp T [.code q10B] (bn xs) s0 (fun e s=>aC e s [.tmp 4]=some x)):call T CX xs=some x:=ak (by kernel_rfl) hn h
theorem q5g(hn:xs.length<=16)(h:wp T [.code q5B] (bn xs) s0 (fun e s=>aC e s [.tmp 4]=some x)):call T q5n xs=some x:=ak (by kernel_rfl) hn h
theorem q84g(hn:xs.length<=62)(h:wp T [.code q84B] (bn xs) s0 (fun e s=>aC e s [.tmp 4,.tmp 5]=some x)):call T YH xs=some x:=ak (by kernel_rfl) hn h
theorem q198g(hn:xs.length<=19)(h:wp T [.code abE] (bn xs) s0 (fun e s=>aC e s [.tmp 4]=some x)):call T KV xs=some x:=ak (by kernel_rfl) hn h
theorem q31g(hn:xs.length<=27)(h:wp T [.code q31B] (bn xs) s0 (fun e s=>aC e s [.tmp 2,.tmp 3]=some x)):call T Yr xs=some x:=ak (by kernel_rfl) hn h
theorem q8g(hn:xs.length<=18)(h:wp T [.code q8B] (bn xs) s0 (fun e s=>aC e s [.tmp 4]=some x)):call T q8n xs=some x:=ak (by kernel_rfl) hn h
theorem q20g(hn:xs.length<=7)(h:wp T [.code q20B] (bn xs) s0 (fun e s=>aC e s [.tmp 2]=some x)):call T QH xs=some x:=ak (by kernel_rfl) hn h
theorem q6g(hn:xs.length<=18)(h:wp T [.code q6B] (bn xs) s0 (fun e s=>aC e s [.tmp 4]=some x)):call T q6n xs=some x:=ak (by kernel_rfl) hn h
theorem q21g(hn:xs.length<=22)(h:wp T [.code q21B] (bn xs) s0 (fun e s=>aC e s [.tmp 2]=some x)):call T QK xs=some x:=ak (by kernel_rfl) hn h
theorem q22g(hn:xs.length<=5)(h:wp T [.code q22B] (bn xs) s0 (fun e s=>aC e s [.tmp 2]=some x)):call T QL xs=some x:=ak (by kernel_rfl) hn h
theorem q11g(hn:xs.length<=18)(h:wp T [.code q11B] (bn xs) s0 (fun e s=>aC e s [.tmp 4]=some x)):call T UA xs=some x:=ak (by kernel_rfl) hn h
theorem q18g(hn:xs.length<=4)(h:wp T [.code q18B] (bn xs) s0 (fun e s=>aC e s [.tmp 2]=some x)):call T Yd xs=some x:=ak (by kernel_rfl) hn h
theorem q30g(hn:xs.length<=26)(h:wp T [.code q30B] (bn xs) s0 (fun e s=>aC e s [.tmp 4]=some x)):call T Yq xs=some x:=ak (by kernel_rfl) hn h
theorem q23g(hn:xs.length<=53)(h:wp T [.code q23B] (bn xs) s0 (fun e s=>aC e s [.tmp 4]=some x)):call T Yo xs=some x:=ak (by kernel_rfl) hn h
theorem q27g(hn:xs.length<=9)(h:wp T [.code q27B] (bn xs) s0 (fun e s=>aC e s [.tmp 4]=some x)):call T Yp xs=some x:=ak (by kernel_rfl) hn h
theorem zB(hn:xs.length<=165)(h:wp T [.code q15B] (bn xs) s0 (fun e s=>aC e s [.tmp 10,.tmp 11]=some x)):call T WZ xs=some x:=ak (by kernel_rfl) hn h
theorem q131g(hn:xs.length<=13)(h:wp T [.code aaA] (bn xs) s0 (fun e s=>aC e s [.tmp 2]=some x)):call T Kh xs=some x:=ak (by kernel_rfl) hn h
theorem q127g(hn:xs.length<=13)(h:wp T [.code aaw] (bn xs) s0 (fun e s=>aC e s [.tmp 2]=some x)):call T BH xs=some x:=ak (by kernel_rfl) hn h
theorem q122g(hn:xs.length<=9)(h:wp T [.code aas] (bn xs) s0 (fun e s=>aC e s [.tmp 4]=some x)):call T J_ xs=some x:=ak (by kernel_rfl) hn h
theorem q114g(hn:xs.length<=39)(h:wp T [.code aal] (bn xs) s0 (fun e s=>aC e s [.tmp 2,.tmp 3]=some x)):call T J9 xs=some x:=ak (by kernel_rfl) hn h
theorem q113g(hn:xs.length<=65)(h:wp T [.code aak] (bn xs) s0 (fun e s=>aC e s [.tmp 4,.tmp 5]=some x)):call T J8 xs=some x:=ak (by kernel_rfl) hn h
theorem q90g(hn:xs.length<=48)(h:wp T [.code q90B] (bn xs) s0 (fun e s=>aC e s [.cell 2 4 true,.tmp 3]=some x)):call T YJ xs=some x:=ak (by kernel_rfl) hn h
theorem q85g(hn:xs.length<=5)(h:wp T [.code q85B] (bn xs) s0 (fun e s=>aC e s [.tmp 2]=some x)):call T Q6 xs=some x:=ak (by kernel_rfl) hn h
theorem q87g(hn:xs.length<=45)(h:wp T [.code q87B] (bn xs) s0 (fun e s=>aC e s [.tmp 2,.tmp 3]=some x)):call T YI xs=some x:=ak (by kernel_rfl) hn h
theorem q88g(hn:xs.length<=21)(h:wp T [.code q88B] (bn xs) s0 (fun e s=>aC e s [.cell 2 1 false,.tmp 3]=some x)):call T Rb xs=some x:=ak (by kernel_rfl) hn h
theorem q19g(hn:xs.length<=36)(h:wp T [.code q19B] (bn xs) s0 (fun e s=>aC e s [.tmp 3]=some x)):call T M4 xs=some x:=ak (by kernel_rfl) hn h
theorem q12g(hn:xs.length<=18)(h:wp T [.code q12B] (bn xs) s0 (fun e s=>aC e s [.tmp 4]=some x)):call T UR xs=some x:=ak (by kernel_rfl) hn h
theorem q24g(hn:xs.length<=8)(h:wp T [.code q24B] (bn xs) s0 (fun e s=>aC e s [.tmp 3]=some x)):call T QN xs=some x:=ak (by kernel_rfl) hn h
theorem q25g(hn:xs.length<=14)(h:wp T [.code q25B] (bn xs) s0 (fun e s=>aC e s [.tmp 3]=some x)):call T QO xs=some x:=ak (by kernel_rfl) hn h
theorem q26g(hn:xs.length<=9)(h:wp T [.code q26B] (bn xs) s0 (fun e s=>aC e s [.tmp 3]=some x)):call T QR xs=some x:=ak (by kernel_rfl) hn h
theorem q111g(hn:xs.length<=19)(h:wp T [.code aai] (bn xs) s0 (fun e s=>aC e s [.tmp 4]=some x)):call T uq xs=some x:=ak (by kernel_rfl) hn h
theorem q108g(hn:xs.length<=16)(h:wp T [.code aaf] (bn xs) s0 (fun e s=>aC e s [.tmp 4]=some x)):call T BG xs=some x:=ak (by kernel_rfl) hn h
theorem q112g(hn:xs.length<=39)(h:wp T [.code aaj] (bn xs) s0 (fun e s=>aC e s [.tmp 2,.tmp 3]=some x)):call T J7 xs=some x:=ak (by kernel_rfl) hn h
theorem q109g(hn:xs.length<=26)(h:wp T [.code aag] (bn xs) s0 (fun e s=>aC e s [.tmp 2,.tmp 3]=some x)):call T Fu xs=some x:=ak (by kernel_rfl) hn h
theorem q86g(hn:xs.length<=16)(h:wp T [.code q86B] (bn xs) s0 (fun e s=>aC e s [.tmp 4]=some x)):call T Q7 xs=some x:=ak (by kernel_rfl) hn h
theorem q89g(hn:xs.length<=8)(h:wp T [.code q89B] (bn xs) s0 (fun e s=>aC e s [.tmp 3]=some x)):call T M_ xs=some x:=ak (by kernel_rfl) hn h
end Go.Proofs.YtbmkfjmlepjpfaaGreatDoor
