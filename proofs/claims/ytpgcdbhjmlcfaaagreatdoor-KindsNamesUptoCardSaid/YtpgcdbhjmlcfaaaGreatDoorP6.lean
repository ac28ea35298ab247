/-
  Texts of one proof, one behind the other.
-/
import Derived.Test.YtpgcdbhjmlcfaaaGreatDoorP5
import Derived.Lib.Bytealg
import Derived.Lib.Index
import Derived.Lib.Strings
set_option linter.all false
section
namespace Go.Am
open Go
open Go.Proofs
set_option maxRecDepth 10000
noncomputable def keepL : List (Nat → List Nat) := [fun _ => [], fun _ => [], fun _ => [], fun _ => [], fun _ => [], keep5, keep6, fun _ => [], fun _ => [], fun _ => [], fun _ => [], fun _ => [], fun _ => [], fun _ => [], fun _ => [], fun _ => [], keep16, keep17, keep18, fun _ => [], fun _ => [], fun _ => [], fun _ => [], fun _ => [], fun _ => [], fun _ => [], keep26, keep27, keep28, fun _ => [], fun _ => [], fun _ => [], fun _ => [], fun _ => [], fun _ => [], fun _ => [], fun _ => [], fun _ => [], fun _ => [], fun _ => [], fun _ => [], keep41, keep42, keep43, keep44, keep45, keep46, keep47, fun _ => [], fun _ => [], fun _ => [], fun _ => [], fun _ => [], fun _ => [], fun _ => [], fun _ => [], fun _ => [], fun _ => [], fun _ => [], fun _ => [], fun _ => [], fun _ => [], fun _ => [], fun _ => [], keep64, keep65, keep66, keep67, keep68, fun _ => [], fun _ => [], fun _ => [], fun _ => [], keep73, fun _ => [], fun _ => [], fun _ => [], fun _ => [], fun _ => [], fun _ => [], keep80, keep81, keep82, keep83, keep84, keep85, keep86, keep87, keep88, fun _ => [], fun _ => [], fun _ => [], fun _ => [], fun _ => [], fun _ => [], fun _ => [], fun _ => [], fun _ => [], keep98, keep99, keep100, keep101, keep102, keep103, keep104, fun _ => [], fun _ => [], fun _ => [], fun _ => [], fun _ => [], fun _ => [], fun _ => [], keep112, keep113, fun _ => [], fun _ => [], fun _ => [], fun _ => [], fun _ => [], fun _ => [], fun _ => [], keep121, keep122, keep123, keep124, fun _ => [], fun _ => [], fun _ => [], fun _ => [], fun _ => [], fun _ => [], fun _ => [], fun _ => [], fun _ => [], fun _ => [], fun _ => [], fun _ => [], fun _ => [], fun _ => [], fun _ => [], fun _ => [], fun _ => [], keep142, keep143, keep144, keep145, keep146, keep147, keep148, keep149, keep150, keep151, keep152, keep153, keep154, keep155, keep156, keep157, keep158, fun _ => [], fun _ => [], fun _ => [], fun _ => [], keep163, keep164, keep165, keep166, keep167, fun _ => [], fun _ => [], fun _ => [], fun _ => [], fun _ => [], fun _ => [], fun _ => [], fun _ => [], fun _ => [], fun _ => [], fun _ => [], fun _ => [], fun _ => [], fun _ => [], fun _ => [], fun _ => [], fun _ => [], fun _ => [], fun _ => [], keep187, keep188, fun _ => [], fun _ => [], fun _ => [], fun _ => [], fun _ => [], fun _ => [], fun _ => [], fun _ => [], fun _ => [], fun _ => [], keep199, keep200, keep201, keep202, keep203, keep204, keep205, keep206, keep207, keep208, keep209, keep210, keep211, keep212, keep213, keep214, keep215, keep216, keep217, keep218, keep219, keep220, keep221, keep222, fun _ => [], fun _ => [], fun _ => [], fun _ => [], fun _ => [], keep228, keep229, keep230, fun _ => [], fun _ => [], fun _ => [], fun _ => [], fun _ => [], fun _ => [], fun _ => [], fun _ => [], fun _ => [], fun _ => [], fun _ => [], fun _ => [], keep243, fun _ => [], keep245, keep246, keep247, keep248, keep249, keep250, keep251, keep252, keep253, keep254, keep255, keep256, keep257, keep258, keep259, keep260, keep261, fun _ => [], fun _ => [], fun _ => [], fun _ => [], fun _ => [], keep267, keep268, fun _ => [], fun _ => [], fun _ => [], fun _ => [], fun _ => [], fun _ => [], fun _ => [], fun _ => [], fun _ => [], fun _ => [], fun _ => [], keep280, keep281, keep282, keep283, keep284, keep285, keep286, keep287, keep288, keep289, keep290, keep291, keep292, keep293, fun _ => [], fun _ => [], fun _ => [], keep297, keep298, fun _ => [], fun _ => [], fun _ => [], fun _ => [], fun _ => [], keep304, keep305, keep306, keep307, keep308, keep309, fun _ => [], keep311, keep312, keep313, keep314, fun _ => [], fun _ => [], fun _ => [], fun _ => [], fun _ => [], fun _ => [], fun _ => [], fun _ => [], fun _ => [], fun _ => [], fun _ => [], fun _ => [], fun _ => [], fun _ => [], fun _ => [], fun _ => [], fun _ => [], fun _ => [], fun _ => [], fun _ => [], fun _ => [], fun _ => [], fun _ => [], fun _ => []]
noncomputable def ghL : List (Nat → List Gh) := [fun _ => [], fun _ => [], fun _ => [], fun _ => [], fun _ => [], fun _ => [], fun _ => [], fun _ => [], fun _ => [], fun _ => [], fun _ => [], fun _ => [], fun _ => [], fun _ => [], fun _ => [], fun _ => [], fun _ => [], fun _ => [], fun _ => [], fun _ => [], fun _ => [], fun _ => [], fun _ => [], fun _ => [], fun _ => [], fun _ => [], fun _ => [], gh27, fun _ => [], fun _ => [], fun _ => [], fun _ => [], fun _ => [], fun _ => [], fun _ => [], fun _ => [], fun _ => [], fun _ => [], fun _ => [], fun _ => [], fun _ => [], fun _ => [], fun _ => [], fun _ => [], fun _ => [], fun _ => [], fun _ => [], fun _ => [], fun _ => [], fun _ => [], fun _ => [], fun _ => [], fun _ => [], fun _ => [], fun _ => [], fun _ => [], fun _ => [], fun _ => [], fun _ => [], fun _ => [], fun _ => [], fun _ => [], fun _ => [], fun _ => [], gh64, fun _ => [], fun _ => [], fun _ => [], fun _ => [], fun _ => [], fun _ => [], fun _ => [], fun _ => [], fun _ => [], fun _ => [], fun _ => [], fun _ => [], fun _ => [], fun _ => [], fun _ => [], fun _ => [], fun _ => [], fun _ => [], fun _ => [], fun _ => [], fun _ => [], fun _ => [], fun _ => [], fun _ => [], fun _ => [], fun _ => [], fun _ => [], fun _ => [], fun _ => [], fun _ => [], fun _ => [], fun _ => [], fun _ => [], fun _ => [], fun _ => [], fun _ => [], fun _ => [], fun _ => [], fun _ => [], fun _ => [], fun _ => [], fun _ => [], fun _ => [], fun _ => [], fun _ => [], fun _ => [], fun _ => [], fun _ => [], fun _ => [], fun _ => [], fun _ => [], fun _ => [], fun _ => [], fun _ => [], fun _ => [], fun _ => [], fun _ => [], fun _ => [], fun _ => [], fun _ => [], fun _ => [], fun _ => [], fun _ => [], fun _ => [], fun _ => [], fun _ => [], fun _ => [], fun _ => [], fun _ => [], fun _ => [], fun _ => [], fun _ => [], fun _ => [], fun _ => [], fun _ => [], fun _ => [], fun _ => [], fun _ => [], fun _ => [], fun _ => [], fun _ => [], fun _ => [], fun _ => [], fun _ => [], fun _ => [], fun _ => [], fun _ => [], fun _ => [], fun _ => [], fun _ => [], fun _ => [], fun _ => [], fun _ => [], fun _ => [], fun _ => [], fun _ => [], fun _ => [], fun _ => [], fun _ => [], fun _ => [], fun _ => [], fun _ => [], fun _ => [], fun _ => [], fun _ => [], fun _ => [], fun _ => [], fun _ => [], fun _ => [], fun _ => [], fun _ => [], fun _ => [], fun _ => [], fun _ => [], fun _ => [], fun _ => [], fun _ => [], fun _ => [], fun _ => [], fun _ => [], fun _ => [], fun _ => [], fun _ => [], fun _ => [], fun _ => [], fun _ => [], fun _ => [], fun _ => [], fun _ => [], fun _ => [], fun _ => [], fun _ => [], fun _ => [], fun _ => [], fun _ => [], fun _ => [], fun _ => [], fun _ => [], fun _ => [], fun _ => [], fun _ => [], fun _ => [], fun _ => [], fun _ => [], fun _ => [], fun _ => [], fun _ => [], fun _ => [], fun _ => [], fun _ => [], fun _ => [], fun _ => [], fun _ => [], fun _ => [], fun _ => [], fun _ => [], fun _ => [], fun _ => [], fun _ => [], fun _ => [], fun _ => [], fun _ => [], fun _ => [], fun _ => [], fun _ => [], fun _ => [], fun _ => [], fun _ => [], fun _ => [], fun _ => [], fun _ => [], fun _ => [], fun _ => [], fun _ => [], fun _ => [], fun _ => [], fun _ => [], fun _ => [], fun _ => [], fun _ => [], fun _ => [], fun _ => [], fun _ => [], fun _ => [], fun _ => [], fun _ => [], fun _ => [], fun _ => [], fun _ => [], fun _ => [], fun _ => [], fun _ => [], fun _ => [], fun _ => [], fun _ => [], fun _ => [], fun _ => [], fun _ => [], fun _ => [], fun _ => [], fun _ => [], fun _ => [], fun _ => [], fun _ => [], fun _ => [], fun _ => [], fun _ => [], fun _ => [], fun _ => [], fun _ => [], fun _ => [], fun _ => [], fun _ => [], fun _ => [], fun _ => [], fun _ => [], fun _ => [], fun _ => [], fun _ => [], fun _ => [], fun _ => [], gh286, gh287, fun _ => [], fun _ => [], gh290, fun _ => [], fun _ => [], fun _ => [], fun _ => [], fun _ => [], fun _ => [], fun _ => [], fun _ => [], fun _ => [], fun _ => [], fun _ => [], fun _ => [], fun _ => [], fun _ => [], fun _ => [], fun _ => [], fun _ => [], fun _ => [], fun _ => [], fun _ => [], fun _ => [], fun _ => [], fun _ => [], fun _ => [], fun _ => [], fun _ => [], fun _ => [], fun _ => [], fun _ => [], fun _ => [], fun _ => [], fun _ => [], fun _ => [], fun _ => [], fun _ => [], fun _ => [], fun _ => [], fun _ => [], fun _ => [], fun _ => [], fun _ => [], fun _ => [], fun _ => [], fun _ => [], fun _ => [], fun _ => [], fun _ => [], fun _ => []]
noncomputable def mdL : List (Nat → Bool) := [fun _ => false, fun _ => false, fun _ => false, fun _ => false, fun _ => false, md5, md6, fun _ => false, fun _ => false, fun _ => false, fun _ => false, fun _ => false, fun _ => false, fun _ => false, fun _ => false, fun _ => false, md16, md17, md18, fun _ => false, fun _ => false, fun _ => false, fun _ => false, fun _ => false, fun _ => false, fun _ => false, md26, md27, md28, fun _ => false, fun _ => false, fun _ => false, fun _ => false, fun _ => false, fun _ => false, fun _ => false, fun _ => false, fun _ => false, fun _ => false, fun _ => false, fun _ => false, md41, md42, md43, md44, md45, md46, md47, fun _ => false, fun _ => false, fun _ => false, fun _ => false, fun _ => false, fun _ => false, fun _ => false, fun _ => false, fun _ => false, fun _ => false, fun _ => false, fun _ => false, fun _ => false, fun _ => false, fun _ => false, fun _ => false, md64, md65, md66, md67, md68, fun _ => false, fun _ => false, fun _ => false, fun _ => false, md73, fun _ => false, fun _ => false, fun _ => false, fun _ => false, fun _ => false, fun _ => false, md80, md81, md82, md83, md84, md85, md86, md87, md88, fun _ => false, fun _ => false, fun _ => false, fun _ => false, fun _ => false, fun _ => false, fun _ => false, fun _ => false, fun _ => false, md98, md99, md100, md101, md102, md103, md104, fun _ => false, fun _ => false, fun _ => false, fun _ => false, fun _ => false, fun _ => false, fun _ => false, md112, md113, fun _ => false, fun _ => false, fun _ => false, fun _ => false, fun _ => false, fun _ => false, fun _ => false, md121, md122, md123, md124, fun _ => false, fun _ => false, fun _ => false, fun _ => false, fun _ => false, fun _ => false, fun _ => false, fun _ => false, fun _ => false, fun _ => false, fun _ => false, fun _ => false, fun _ => false, fun _ => false, fun _ => false, fun _ => false, fun _ => false, md142, md143, md144, md145, md146, md147, md148, md149, md150, md151, md152, md153, md154, md155, md156, md157, md158, fun _ => false, fun _ => false, fun _ => false, fun _ => false, md163, md164, md165, md166, md167, fun _ => false, fun _ => false, fun _ => false, fun _ => false, fun _ => false, fun _ => false, fun _ => false, fun _ => false, fun _ => false, fun _ => false, fun _ => false, fun _ => false, fun _ => false, fun _ => false, fun _ => false, fun _ => false, fun _ => false, fun _ => false, fun _ => false, md187, md188, fun _ => false, fun _ => false, fun _ => false, fun _ => false, fun _ => false, fun _ => false, fun _ => false, fun _ => false, fun _ => false, fun _ => false, md199, md200, md201, md202, md203, md204, md205, md206, md207, md208, md209, md210, md211, md212, md213, md214, md215, md216, md217, md218, md219, md220, md221, md222, fun _ => false, fun _ => false, fun _ => false, fun _ => false, fun _ => false, md228, md229, md230, fun _ => false, fun _ => false, fun _ => false, fun _ => false, fun _ => false, fun _ => false, fun _ => false, fun _ => false, fun _ => false, fun _ => false, fun _ => false, fun _ => false, md243, fun _ => false, md245, md246, md247, md248, md249, md250, md251, md252, md253, md254, md255, md256, md257, md258, md259, md260, md261, fun _ => false, fun _ => false, fun _ => false, fun _ => false, fun _ => false, md267, md268, fun _ => false, fun _ => false, fun _ => false, fun _ => false, fun _ => false, fun _ => false, fun _ => false, fun _ => false, fun _ => false, fun _ => false, fun _ => false, md280, md281, md282, md283, md284, md285, md286, md287, md288, md289, md290, md291, md292, md293, fun _ => false, fun _ => false, fun _ => false, md297, md298, fun _ => false, fun _ => false, fun _ => false, fun _ => false, fun _ => false, md304, md305, md306, md307, md308, md309, fun _ => false, md311, md312, md313, md314, fun _ => false, fun _ => false, fun _ => false, fun _ => false, fun _ => false, fun _ => false, fun _ => false, fun _ => false, fun _ => false, fun _ => false, fun _ => false, fun _ => false, fun _ => false, fun _ => false, fun _ => false, fun _ => false, fun _ => false, fun _ => false, fun _ => false, fun _ => false, fun _ => false, fun _ => false, fun _ => false, fun _ => false]
noncomputable def fpL : List FPol := [⟨[], false, [], [], false⟩, ⟨[], false, [], [], false⟩, ⟨[], false, [], [], false⟩, ⟨[], false, [], [], false⟩, ⟨[], false, [], [], false⟩, fp5, fp6, ⟨[], false, [], [], false⟩, ⟨[], false, [], [], false⟩, ⟨[], false, [], [], false⟩, ⟨[], false, [], [], false⟩, ⟨[], false, [], [], false⟩, ⟨[], false, [], [], false⟩, ⟨[], false, [], [], false⟩, ⟨[], false, [], [], false⟩, ⟨[], false, [], [], false⟩, fp16, fp17, fp18, ⟨[], false, [], [], false⟩, ⟨[], false, [], [], false⟩, ⟨[], false, [], [], false⟩, ⟨[], false, [], [], false⟩, ⟨[], false, [], [], false⟩, ⟨[], false, [], [], false⟩, ⟨[], false, [], [], false⟩, fp26, fp27, fp28, ⟨[], false, [], [], false⟩, ⟨[], false, [], [], false⟩, ⟨[], false, [], [], false⟩, ⟨[], false, [], [], false⟩, ⟨[], false, [], [], false⟩, ⟨[], false, [], [], false⟩, ⟨[], false, [], [], false⟩, ⟨[], false, [], [], false⟩, ⟨[], false, [], [], false⟩, ⟨[], false, [], [], false⟩, ⟨[], false, [], [], false⟩, ⟨[], false, [], [], false⟩, fp41, fp42, fp43, fp44, fp45, fp46, fp47, ⟨[], false, [], [], false⟩, ⟨[], false, [], [], false⟩, ⟨[], false, [], [], false⟩, ⟨[], false, [], [], false⟩, ⟨[], false, [], [], false⟩, ⟨[], false, [], [], false⟩, ⟨[], false, [], [], false⟩, ⟨[], false, [], [], false⟩, ⟨[], false, [], [], false⟩, ⟨[], false, [], [], false⟩, ⟨[], false, [], [], false⟩, ⟨[], false, [], [], false⟩, ⟨[], false, [], [], false⟩, ⟨[], false, [], [], false⟩, ⟨[], false, [], [], false⟩, ⟨[], false, [], [], false⟩, fp64, fp65, fp66, fp67, fp68, ⟨[], false, [], [], false⟩, ⟨[], false, [], [], false⟩, ⟨[], false, [], [], false⟩, ⟨[], false, [], [], false⟩, fp73, ⟨[], false, [], [], false⟩, ⟨[], false, [], [], false⟩, ⟨[], false, [], [], false⟩, ⟨[], false, [], [], false⟩, ⟨[], false, [], [], false⟩, ⟨[], false, [], [], false⟩, fp80, fp81, fp82, fp83, fp84, fp85, fp86, fp87, fp88, ⟨[], false, [], [], false⟩, ⟨[], false, [], [], false⟩, ⟨[], false, [], [], false⟩, ⟨[], false, [], [], false⟩, ⟨[], false, [], [], false⟩, ⟨[], false, [], [], false⟩, ⟨[], false, [], [], false⟩, ⟨[], false, [], [], false⟩, ⟨[], false, [], [], false⟩, fp98, fp99, fp100, fp101, fp102, fp103, fp104, ⟨[], false, [], [], false⟩, ⟨[], false, [], [], false⟩, ⟨[], false, [], [], false⟩, ⟨[], false, [], [], false⟩, ⟨[], false, [], [], false⟩, ⟨[], false, [], [], false⟩, ⟨[], false, [], [], false⟩, fp112, fp113, ⟨[], false, [], [], false⟩, ⟨[], false, [], [], false⟩, ⟨[], false, [], [], false⟩, ⟨[], false, [], [], false⟩, ⟨[], false, [], [], false⟩, ⟨[], false, [], [], false⟩, ⟨[], false, [], [], false⟩, fp121, fp122, fp123, fp124, ⟨[], false, [], [], false⟩, ⟨[], false, [], [], false⟩, ⟨[], false, [], [], false⟩, ⟨[], false, [], [], false⟩, ⟨[], false, [], [], false⟩, ⟨[], false, [], [], false⟩, ⟨[], false, [], [], false⟩, ⟨[], false, [], [], false⟩, ⟨[], false, [], [], false⟩, ⟨[], false, [], [], false⟩, ⟨[], false, [], [], false⟩, ⟨[], false, [], [], false⟩, ⟨[], false, [], [], false⟩, ⟨[], false, [], [], false⟩, ⟨[], false, [], [], false⟩, ⟨[], false, [], [], false⟩, ⟨[], false, [], [], false⟩, fp142, fp143, fp144, fp145, fp146, fp147, fp148, fp149, fp150, fp151, fp152, fp153, fp154, fp155, fp156, fp157, fp158, ⟨[], false, [], [], false⟩, ⟨[], false, [], [], false⟩, ⟨[], false, [], [], false⟩, ⟨[], false, [], [], false⟩, fp163, fp164, fp165, fp166, fp167, ⟨[], false, [], [], false⟩, ⟨[], false, [], [], false⟩, ⟨[], false, [], [], false⟩, ⟨[], false, [], [], false⟩, ⟨[], false, [], [], false⟩, ⟨[], false, [], [], false⟩, ⟨[], false, [], [], false⟩, ⟨[], false, [], [], false⟩, ⟨[], false, [], [], false⟩, ⟨[], false, [], [], false⟩, ⟨[], false, [], [], false⟩, ⟨[], false, [], [], false⟩, ⟨[], false, [], [], false⟩, ⟨[], false, [], [], false⟩, ⟨[], false, [], [], false⟩, ⟨[], false, [], [], false⟩, ⟨[], false, [], [], false⟩, ⟨[], false, [], [], false⟩, ⟨[], false, [], [], false⟩, fp187, fp188, ⟨[], false, [], [], false⟩, ⟨[], false, [], [], false⟩, ⟨[], false, [], [], false⟩, ⟨[], false, [], [], false⟩, ⟨[], false, [], [], false⟩, ⟨[], false, [], [], false⟩, ⟨[], false, [], [], false⟩, ⟨[], false, [], [], false⟩, ⟨[], false, [], [], false⟩, ⟨[], false, [], [], false⟩, fp199, fp200, fp201, fp202, fp203, fp204, fp205, fp206, fp207, fp208, fp209, fp210, fp211, fp212, fp213, fp214, fp215, fp216, fp217, fp218, fp219, fp220, fp221, fp222, ⟨[], false, [], [], false⟩, ⟨[], false, [], [], false⟩, ⟨[], false, [], [], false⟩, ⟨[], false, [], [], false⟩, ⟨[], false, [], [], false⟩, fp228, fp229, fp230, ⟨[], false, [], [], false⟩, ⟨[], false, [], [], false⟩, ⟨[], false, [], [], false⟩, ⟨[], false, [], [], false⟩, ⟨[], false, [], [], false⟩, ⟨[], false, [], [], false⟩, ⟨[], false, [], [], false⟩, ⟨[], false, [], [], false⟩, ⟨[], false, [], [], false⟩, ⟨[], false, [], [], false⟩, ⟨[], false, [], [], false⟩, ⟨[], false, [], [], false⟩, fp243, ⟨[], false, [], [], false⟩, fp245, fp246, fp247, fp248, fp249, fp250, fp251, fp252, fp253, fp254, fp255, fp256, fp257, fp258, fp259, fp260, fp261, ⟨[], false, [], [], false⟩, ⟨[], false, [], [], false⟩, ⟨[], false, [], [], false⟩, ⟨[], false, [], [], false⟩, ⟨[], false, [], [], false⟩, fp267, fp268, ⟨[], false, [], [], false⟩, ⟨[], false, [], [], false⟩, ⟨[], false, [], [], false⟩, ⟨[], false, [], [], false⟩, ⟨[], false, [], [], false⟩, ⟨[], false, [], [], false⟩, ⟨[], false, [], [], false⟩, ⟨[], false, [], [], false⟩, ⟨[], false, [], [], false⟩, ⟨[], false, [], [], false⟩, ⟨[], false, [], [], false⟩, fp280, fp281, fp282, fp283, fp284, fp285, fp286, fp287, fp288, fp289, fp290, fp291, fp292, fp293, ⟨[], false, [], [], false⟩, ⟨[], false, [], [], false⟩, ⟨[], false, [], [], false⟩, fp297, fp298, ⟨[], false, [], [], false⟩, ⟨[], false, [], [], false⟩, ⟨[], false, [], [], false⟩, ⟨[], false, [], [], false⟩, ⟨[], false, [], [], false⟩, fp304, fp305, fp306, fp307, fp308, fp309, ⟨[], false, [], [], false⟩, fp311, fp312, fp313, fp314, ⟨[], false, [], [], false⟩, ⟨[], false, [], [], false⟩, ⟨[], false, [], [], false⟩, ⟨[], false, [], [], false⟩, ⟨[], false, [], [], false⟩, ⟨[], false, [], [], false⟩, ⟨[], false, [], [], false⟩, ⟨[], false, [], [], false⟩, ⟨[], false, [], [], false⟩, ⟨[], false, [], [], false⟩, ⟨[], false, [], [], false⟩, ⟨[], false, [], [], false⟩, ⟨[], false, [], [], false⟩, ⟨[], false, [], [], false⟩, ⟨[], false, [], [], false⟩, ⟨[], false, [], [], false⟩, ⟨[], false, [], [], false⟩, ⟨[], false, [], [], false⟩, ⟨[], false, [], [], false⟩, ⟨[], false, [], [], false⟩, ⟨[], false, [], [], false⟩, ⟨[], false, [], [], false⟩, ⟨[], false, [], [], false⟩, ⟨[], false, [], [], false⟩]
noncomputable def odL : List (Nat → List (List Nat)) := [fun _ => [], fun _ => [], fun _ => [], fun _ => [], fun _ => [], od5, od6, od7, fun _ => [], fun _ => [], fun _ => [], fun _ => [], od12, od13, od14, fun _ => [], od16, od17, od18, od19, od20, fun _ => [], od22, fun _ => [], od24, od25, od26, od27, od28, fun _ => [], fun _ => [], od31, od32, fun _ => [], fun _ => [], fun _ => [], fun _ => [], fun _ => [], fun _ => [], fun _ => [], fun _ => [], od41, od42, od43, od44, od45, od46, od47, fun _ => [], fun _ => [], fun _ => [], od51, fun _ => [], od53, fun _ => [], od55, fun _ => [], fun _ => [], fun _ => [], fun _ => [], fun _ => [], fun _ => [], fun _ => [], fun _ => [], od64, od65, od66, od67, od68, od69, fun _ => [], od71, od72, od73, od74, fun _ => [], fun _ => [], od77, od78, od79, od80, od81, od82, od83, od84, od85, od86, od87, od88, od89, od90, fun _ => [], fun _ => [], fun _ => [], fun _ => [], fun _ => [], fun _ => [], fun _ => [], od98, od99, od100, od101, od102, od103, od104, od105, fun _ => [], fun _ => [], od108, od109, fun _ => [], od111, od112, od113, fun _ => [], fun _ => [], fun _ => [], od117, od118, fun _ => [], fun _ => [], od121, od122, od123, od124, fun _ => [], od126, fun _ => [], od128, od129, fun _ => [], od131, fun _ => [], fun _ => [], od134, fun _ => [], fun _ => [], fun _ => [], fun _ => [], fun _ => [], od140, fun _ => [], od142, od143, od144, od145, od146, od147, od148, od149, od150, od151, od152, od153, od154, od155, od156, od157, od158, od159, od160, od161, fun _ => [], od163, od164, od165, od166, od167, fun _ => [], od169, fun _ => [], fun _ => [], fun _ => [], fun _ => [], fun _ => [], od175, fun _ => [], od177, fun _ => [], od179, fun _ => [], od181, od182, od183, fun _ => [], fun _ => [], fun _ => [], od187, od188, od189, fun _ => [], fun _ => [], fun _ => [], od193, fun _ => [], od195, fun _ => [], od197, od198, od199, od200, od201, od202, od203, od204, od205, od206, od207, od208, od209, od210, od211, od212, od213, od214, od215, od216, od217, od218, od219, od220, od221, od222, fun _ => [], fun _ => [], fun _ => [], fun _ => [], od227, od228, od229, od230, od231, fun _ => [], fun _ => [], fun _ => [], od235, od236, fun _ => [], fun _ => [], fun _ => [], fun _ => [], fun _ => [], od242, od243, fun _ => [], od245, od246, od247, od248, od249, od250, od251, od252, od253, od254, od255, od256, od257, od258, od259, od260, od261, fun _ => [], fun _ => [], fun _ => [], fun _ => [], fun _ => [], od267, od268, fun _ => [], od270, fun _ => [], fun _ => [], fun _ => [], fun _ => [], fun _ => [], od276, od277, fun _ => [], fun _ => [], od280, od281, od282, od283, od284, od285, od286, od287, od288, od289, od290, od291, od292, od293, fun _ => [], fun _ => [], fun _ => [], od297, od298, fun _ => [], fun _ => [], od301, od302, od303, od304, od305, od306, od307, od308, od309, fun _ => [], od311, od312, od313, od314, fun _ => [], fun _ => [], fun _ => [], fun _ => [], fun _ => [], fun _ => [], fun _ => [], fun _ => [], fun _ => [], fun _ => [], fun _ => [], fun _ => [], fun _ => [], fun _ => [], fun _ => [], fun _ => [], fun _ => [], fun _ => [], fun _ => [], fun _ => [], fun _ => [], fun _ => [], fun _ => [], fun _ => []]
noncomputable def flL : List (Nat → List (Nat × Nat)) := [fun _ => [], fun _ => [], fun _ => [], fun _ => [], fun _ => [], fun _ => [], fun _ => [], fun _ => [], fun _ => [], fun _ => [], fun _ => [], fun _ => [], fun _ => [], fun _ => [], fun _ => [], fun _ => [], fun _ => [], fun _ => [], fun _ => [], fun _ => [], fun _ => [], fun _ => [], fun _ => [], fun _ => [], fun _ => [], fun _ => [], fun _ => [], fun _ => [], fun _ => [], fun _ => [], fun _ => [], fun _ => [], fun _ => [], fun _ => [], fun _ => [], fun _ => [], fun _ => [], fun _ => [], fun _ => [], fun _ => [], fun _ => [], fun _ => [], fun _ => [], fun _ => [], fun _ => [], fun _ => [], fun _ => [], fun _ => [], fun _ => [], fun _ => [], fun _ => [], fun _ => [], fun _ => [], fun _ => [], fun _ => [], fun _ => [], fun _ => [], fun _ => [], fun _ => [], fun _ => [], fun _ => [], fun _ => [], fun _ => [], fun _ => [], fun _ => [], fun _ => [], fl66, fun _ => [], fun _ => [], fun _ => [], fun _ => [], fun _ => [], fun _ => [], fun _ => [], fun _ => [], fun _ => [], fun _ => [], fun _ => [], fun _ => [], fun _ => [], fun _ => [], fun _ => [], fun _ => [], fun _ => [], fun _ => [], fun _ => [], fun _ => [], fun _ => [], fun _ => [], fun _ => [], fun _ => [], fun _ => [], fun _ => [], fun _ => [], fun _ => [], fun _ => [], fun _ => [], fun _ => [], fun _ => [], fun _ => [], fun _ => [], fun _ => [], fun _ => [], fun _ => [], fun _ => [], fun _ => [], fun _ => [], fun _ => [], fun _ => [], fun _ => [], fun _ => [], fun _ => [], fun _ => [], fun _ => [], fun _ => [], fun _ => [], fun _ => [], fun _ => [], fun _ => [], fun _ => [], fun _ => [], fun _ => [], fun _ => [], fun _ => [], fun _ => [], fun _ => [], fun _ => [], fun _ => [], fun _ => [], fun _ => [], fun _ => [], fun _ => [], fun _ => [], fun _ => [], fun _ => [], fun _ => [], fun _ => [], fun _ => [], fun _ => [], fun _ => [], fun _ => [], fun _ => [], fun _ => [], fun _ => [], fun _ => [], fun _ => [], fun _ => [], fun _ => [], fun _ => [], fun _ => [], fun _ => [], fun _ => [], fun _ => [], fun _ => [], fun _ => [], fun _ => [], fun _ => [], fun _ => [], fun _ => [], fun _ => [], fun _ => [], fun _ => [], fun _ => [], fun _ => [], fun _ => [], fun _ => [], fun _ => [], fun _ => [], fun _ => [], fun _ => [], fun _ => [], fun _ => [], fun _ => [], fun _ => [], fun _ => [], fun _ => [], fun _ => [], fun _ => [], fun _ => [], fun _ => [], fun _ => [], fun _ => [], fun _ => [], fun _ => [], fun _ => [], fun _ => [], fun _ => [], fun _ => [], fun _ => [], fun _ => [], fun _ => [], fun _ => [], fun _ => [], fun _ => [], fun _ => [], fun _ => [], fun _ => [], fun _ => [], fun _ => [], fun _ => [], fun _ => [], fun _ => [], fun _ => [], fun _ => [], fun _ => [], fun _ => [], fun _ => [], fun _ => [], fun _ => [], fun _ => [], fun _ => [], fun _ => [], fun _ => [], fun _ => [], fun _ => [], fun _ => [], fun _ => [], fun _ => [], fun _ => [], fun _ => [], fun _ => [], fun _ => [], fun _ => [], fun _ => [], fun _ => [], fun _ => [], fun _ => [], fun _ => [], fun _ => [], fun _ => [], fun _ => [], fun _ => [], fun _ => [], fun _ => [], fun _ => [], fun _ => [], fun _ => [], fun _ => [], fun _ => [], fun _ => [], fun _ => [], fun _ => [], fun _ => [], fun _ => [], fun _ => [], fun _ => [], fun _ => [], fun _ => [], fun _ => [], fun _ => [], fun _ => [], fun _ => [], fun _ => [], fun _ => [], fun _ => [], fun _ => [], fun _ => [], fun _ => [], fun _ => [], fun _ => [], fun _ => [], fun _ => [], fun _ => [], fun _ => [], fun _ => [], fun _ => [], fun _ => [], fun _ => [], fun _ => [], fun _ => [], fun _ => [], fun _ => [], fun _ => [], fun _ => [], fun _ => [], fun _ => [], fun _ => [], fun _ => [], fun _ => [], fun _ => [], fun _ => [], fun _ => [], fun _ => [], fun _ => [], fun _ => [], fun _ => [], fun _ => [], fun _ => [], fun _ => [], fun _ => [], fun _ => [], fun _ => [], fun _ => [], fun _ => [], fun _ => [], fun _ => [], fun _ => [], fun _ => [], fun _ => [], fun _ => [], fun _ => [], fun _ => [], fun _ => [], fun _ => [], fun _ => [], fun _ => [], fun _ => [], fun _ => [], fun _ => [], fun _ => [], fun _ => [], fun _ => [], fun _ => [], fun _ => [], fun _ => [], fun _ => [], fun _ => [], fun _ => [], fun _ => [], fun _ => [], fun _ => [], fun _ => [], fun _ => [], fun _ => [], fun _ => [], fun _ => [], fun _ => [], fun _ => [], fun _ => [], fun _ => [], fun _ => [], fun _ => [], fun _ => [], fun _ => [], fun _ => [], fun _ => [], fun _ => [], fun _ => [], fun _ => []]
def Mx2 : Type := Int
variable [Inhabited Mx2]
def tab0 : List Int := [0, 0, 0, 0, 0, 0, 0, 0, 0, 1, 1, 1, 1, 1, 0, 0, 0, 0, 0, 0, 0, 0, 0, 0, 0, 0, 0, 0, 0, 0, 0, 0, 1, 0, 0, 0, 0, 0, 0, 0, 0, 0, 0, 0, 0, 0, 0, 0, 0, 0, 0, 0, 0, 0, 0, 0, 0, 0, 0, 0, 0, 0, 0, 0, 0, 0, 0, 0, 0, 0, 0, 0, 0, 0, 0, 0, 0, 0, 0, 0, 0, 0, 0, 0, 0, 0, 0, 0, 0, 0, 0, 0, 0, 0, 0, 0, 0, 0, 0, 0, 0, 0, 0, 0, 0, 0, 0, 0, 0, 0, 0, 0, 0, 0, 0, 0, 0, 0, 0, 0, 0, 0, 0, 0, 0, 0, 0, 0, 0, 0, 0, 0, 0, 0, 0, 0, 0, 0, 0, 0, 0, 0, 0, 0, 0, 0, 0, 0, 0, 0, 0, 0, 0, 0, 0, 0, 0, 0, 0, 0, 0, 0, 0, 0, 0, 0, 0, 0, 0, 0, 0, 0, 0, 0, 0, 0, 0, 0, 0, 0, 0, 0, 0, 0, 0, 0, 0, 0, 0, 0, 0, 0, 0, 0, 0, 0, 0, 0, 0, 0, 0, 0, 0, 0, 0, 0, 0, 0, 0, 0, 0, 0, 0, 0, 0, 0, 0, 0, 0, 0, 0, 0, 0, 0, 0, 0, 0, 0, 0, 0, 0, 0, 0, 0, 0, 0, 0, 0, 0, 0, 0, 0, 0, 0, 0, 0, 0, 0, 0, 0, 0, 0, 0, 0, 0, 0]
def gl0 : List (Nat × D) := [(0, .agg (tab0.map fun z => .int .u8 z)), (2, .int .i64 (id (α := Int) (default : Mx2)))]
@[simp] theorem glk_0 : glk gl0 0 = some (.agg (tab0.map fun z => .int .u8 z)) := rfl
def orc0 : FuncId → Option (List AV → Option AV)
 | 199 => some (liftO hpO)
 | 201 => some (liftO idxO)
 | 246 => some (liftO ibO)
 | _ => none
noncomputable def ctx : Ctx := ⟨Tryz.prog, gl0, fun f => keepL.getD f (fun _ => []), fun f => ghL.getD f (fun _ => []), fun f => mdL.getD f (fun _ => false), fun f => fpL.getD f ⟨[], false, [], [], false⟩, fun f => odL.getD f (fun _ => []), orc0, fun f => flL.getD f (fun _ => []), none⟩
@[simp] theorem ctx_P : ctx.P = Tryz.prog := rfl
@[simp] theorem ctx_gl : ctx.gl = gl0 := rfl
@[simp] def codeOf (fn : Func) : Code := fn.body.getD .skip
@[simp] theorem keepE6 : ctx.keep 6 = keep6 ∧ (ctx.gh 6 = fun _ => []) ∧ ctx.md 6 = md6 ∧ ctx.fp 6 = fp6 ∧ (ctx.fl 6 = fun _ => []) ∧ ctx.od 6 = od6 := ⟨rfl, rfl, rfl, rfl, rfl, rfl⟩
theorem run6 {args : List AV} {cs : List Cont} (h : callOk 70 fp6 args cs = true) : callT ctx 6 args cs = denK ctx 6 (codeOf Tryz.f6) (entry 70 gl0 args cs fp6.sites) (finK Tryz.prog fp6 cs.length [.tmp 4]) :=
 call_run rfl rfl Tryz.func6 rfl (by kernel_rfl) Tryz.ntmps6 (by rw [Tryz.results6]) rfl rfl h
@[simp] theorem keepE16 : ctx.keep 16 = keep16 ∧ (ctx.gh 16 = fun _ => []) ∧ ctx.md 16 = md16 ∧ ctx.fp 16 = fp16 ∧ (ctx.fl 16 = fun _ => []) ∧ ctx.od 16 = od16 := ⟨rfl, rfl, rfl, rfl, rfl, rfl⟩
theorem run16 {args : List AV} {cs : List Cont} (h : callOk 18 fp16 args cs = true) : callT ctx 16 args cs = denK ctx 16 (codeOf Tryz.f16) (entry 18 gl0 args cs fp16.sites) (finK Tryz.prog fp16 cs.length [.tmp 2]) :=
 call_run rfl rfl Tryz.func16 rfl (by kernel_rfl) Tryz.ntmps16 (by rw [Tryz.results16]) rfl rfl h
@[simp] theorem keepE17 : ctx.keep 17 = keep17 ∧ (ctx.gh 17 = fun _ => []) ∧ ctx.md 17 = md17 ∧ ctx.fp 17 = fp17 ∧ (ctx.fl 17 = fun _ => []) ∧ ctx.od 17 = od17 := ⟨rfl, rfl, rfl, rfl, rfl, rfl⟩
theorem run17 {args : List AV} {cs : List Cont} (h : callOk 129 fp17 args cs = true) : callT ctx 17 args cs = denK ctx 17 (codeOf Tryz.f17) (entry 129 gl0 args cs fp17.sites) (finK Tryz.prog fp17 cs.length [.tmp 2]) :=
 call_run rfl rfl Tryz.func17 rfl (by kernel_rfl) Tryz.ntmps17 (by rw [Tryz.results17]) rfl rfl h
@[simp] theorem keepE26 : ctx.keep 26 = keep26 ∧ (ctx.gh 26 = fun _ => []) ∧ ctx.md 26 = md26 ∧ ctx.fp 26 = fp26 ∧ (ctx.fl 26 = fun _ => []) ∧ ctx.od 26 = od26 := ⟨rfl, rfl, rfl, rfl, rfl, rfl⟩
theorem run26 {args : List AV} {cs : List Cont} (h : callOk 22 fp26 args cs = true) : callT ctx 26 args cs = denK ctx 26 (codeOf Tryz.f26) (entry 22 gl0 args cs fp26.sites) (finK Tryz.prog fp26 cs.length [.tmp 0]) :=
 call_run rfl rfl Tryz.func26 rfl (by kernel_rfl) Tryz.ntmps26 (by rw [Tryz.results26]) rfl rfl h
@[simp] theorem keepE27 : ctx.keep 27 = keep27 ∧ ctx.gh 27 = gh27 ∧ ctx.md 27 = md27 ∧ ctx.fp 27 = fp27 ∧ (ctx.fl 27 = fun _ => []) ∧ ctx.od 27 = od27 := ⟨rfl, rfl, rfl, rfl, rfl, rfl⟩
theorem run27 {args : List AV} {cs : List Cont} (h : callOk 15 fp27 args cs = true) : callT ctx 27 args cs = denKD ctx 27 (codeOf Tryz.f27) (entry 15 gl0 args cs fp27.sites) [] (finKD ctx fp27 cs.length [.cell 2 34, .cell 3 3]) :=
 call_runD rfl rfl Tryz.func27 rfl (by kernel_rfl) Tryz.ntmps27 (by rw [Tryz.results27]) rfl h
@[simp] theorem keepE28 : ctx.keep 28 = keep28 ∧ (ctx.gh 28 = fun _ => []) ∧ ctx.md 28 = md28 ∧ ctx.fp 28 = fp28 ∧ (ctx.fl 28 = fun _ => []) ∧ ctx.od 28 = od28 := ⟨rfl, rfl, rfl, rfl, rfl, rfl⟩
theorem run28 {args : List AV} {cs : List Cont} (h : callOk 51 fp28 args cs = true) : callT ctx 28 args cs = denK ctx 28 (codeOf Tryz.f28) (entry 51 gl0 args cs fp28.sites) (finK Tryz.prog fp28 cs.length [.tmp 4]) :=
 call_run rfl rfl Tryz.func28 rfl (by kernel_rfl) Tryz.ntmps28 (by rw [Tryz.results28]) rfl rfl h
@[simp] theorem keepE41 : ctx.keep 41 = keep41 ∧ (ctx.gh 41 = fun _ => []) ∧ ctx.md 41 = md41 ∧ ctx.fp 41 = fp41 ∧ (ctx.fl 41 = fun _ => []) ∧ ctx.od 41 = od41 := ⟨rfl, rfl, rfl, rfl, rfl, rfl⟩
theorem run41 {args : List AV} {cs : List Cont} (h : callOk 21 fp41 args cs = true) : callT ctx 41 args cs = denK ctx 41 (codeOf Tryz.f41) (entry 21 gl0 args cs fp41.sites) (finK Tryz.prog fp41 cs.length [.tmp 4, .tmp 5]) :=
 call_run rfl rfl Tryz.func41 rfl (by kernel_rfl) Tryz.ntmps41 (by rw [Tryz.results41]) rfl rfl h
@[simp] theorem keepE42 : ctx.keep 42 = keep42 ∧ (ctx.gh 42 = fun _ => []) ∧ ctx.md 42 = md42 ∧ ctx.fp 42 = fp42 ∧ (ctx.fl 42 = fun _ => []) ∧ ctx.od 42 = od42 := ⟨rfl, rfl, rfl, rfl, rfl, rfl⟩
theorem run42 {args : List AV} {cs : List Cont} (h : callOk 59 fp42 args cs = true) : callT ctx 42 args cs = denK ctx 42 (codeOf Tryz.f42) (entry 59 gl0 args cs fp42.sites) (finK Tryz.prog fp42 cs.length [.tmp 2]) :=
 call_run rfl rfl Tryz.func42 rfl (by kernel_rfl) Tryz.ntmps42 (by rw [Tryz.results42]) rfl rfl h
@[simp] theorem keepE43 : ctx.keep 43 = keep43 ∧ (ctx.gh 43 = fun _ => []) ∧ ctx.md 43 = md43 ∧ ctx.fp 43 = fp43 ∧ (ctx.fl 43 = fun _ => []) ∧ ctx.od 43 = od43 := ⟨rfl, rfl, rfl, rfl, rfl, rfl⟩
theorem run43 {args : List AV} {cs : List Cont} (h : callOk 24 fp43 args cs = true) : callT ctx 43 args cs = denK ctx 43 (codeOf Tryz.f43) (entry 24 gl0 args cs fp43.sites) (finK Tryz.prog fp43 cs.length [.tmp 2]) :=
 call_run rfl rfl Tryz.func43 rfl (by kernel_rfl) Tryz.ntmps43 (by rw [Tryz.results43]) rfl rfl h
@[simp] theorem keepE44 : ctx.keep 44 = keep44 ∧ (ctx.gh 44 = fun _ => []) ∧ ctx.md 44 = md44 ∧ ctx.fp 44 = fp44 ∧ (ctx.fl 44 = fun _ => []) ∧ ctx.od 44 = od44 := ⟨rfl, rfl, rfl, rfl, rfl, rfl⟩
theorem run44 {args : List AV} {cs : List Cont} (h : callOk 258 fp44 args cs = true) : callT ctx 44 args cs = denK ctx 44 (codeOf Tryz.f44) (entry 258 gl0 args cs fp44.sites) (finK Tryz.prog fp44 cs.length [.tmp 2]) :=
 call_run rfl rfl Tryz.func44 rfl (by kernel_rfl) Tryz.ntmps44 (by rw [Tryz.results44]) rfl rfl h
@[simp] theorem keepE64 : ctx.keep 64 = keep64 ∧ ctx.gh 64 = gh64 ∧ ctx.md 64 = md64 ∧ ctx.fp 64 = fp64 ∧ (ctx.fl 64 = fun _ => []) ∧ ctx.od 64 = od64 := ⟨rfl, rfl, rfl, rfl, rfl, rfl⟩
theorem run64 {args : List AV} {cs : List Cont} (h : callOk 25 fp64 args cs = true) : callT ctx 64 args cs = denKD ctx 64 (codeOf Tryz.f64) (entry 25 gl0 args cs fp64.sites) [] (finKD ctx fp64 cs.length [.cell 2 25, .cell 3 34, .cell 4 104]) :=
 call_runD rfl rfl Tryz.func64 rfl (by kernel_rfl) Tryz.ntmps64 (by rw [Tryz.results64]) rfl h
@[simp] theorem keepE65 : ctx.keep 65 = keep65 ∧ (ctx.gh 65 = fun _ => []) ∧ ctx.md 65 = md65 ∧ ctx.fp 65 = fp65 ∧ (ctx.fl 65 = fun _ => []) ∧ ctx.od 65 = od65 := ⟨rfl, rfl, rfl, rfl, rfl, rfl⟩
theorem run65 {args ys : List AV} {rv : AV} {cs : List Cont} (hl : args.getLast? = some rv) (hy : args.dropLast = ys) (h : callOk 26 fp65 ys cs = true) : recT ctx 65 args cs = denRK ctx 65 rv (codeOf Tryz.f65) (entry 26 gl0 ys cs fp65.sites) (finRK Tryz.prog fp65 cs.length []) :=
 rec_run Tryz.func65 rfl Tryz.ntmps65 (by rw [Tryz.results65]) rfl hl hy h
@[simp] theorem keepE66 : ctx.keep 66 = keep66 ∧ (ctx.gh 66 = fun _ => []) ∧ ctx.md 66 = md66 ∧ ctx.fp 66 = fp66 ∧ ctx.fl 66 = fl66 ∧ ctx.od 66 = od66 := ⟨rfl, rfl, rfl, rfl, rfl, rfl⟩
theorem run66 {args : List AV} {cs : List Cont} (h : callOk 43 fp66 args cs = true) : callT ctx 66 args cs = denK ctx 66 (codeOf Tryz.f66) (entry 43 gl0 args cs fp66.sites) (finK Tryz.prog fp66 cs.length []) :=
 call_run rfl rfl Tryz.func66 rfl (by kernel_rfl) Tryz.ntmps66 (by rw [Tryz.results66]) rfl rfl h
@[simp] theorem keepE67 : ctx.keep 67 = keep67 ∧ (ctx.gh 67 = fun _ => []) ∧ ctx.md 67 = md67 ∧ ctx.fp 67 = fp67 ∧ (ctx.fl 67 = fun _ => []) ∧ ctx.od 67 = od67 := ⟨rfl, rfl, rfl, rfl, rfl, rfl⟩
theorem run67 {args : List AV} {cs : List Cont} (h : callOk 16 fp67 args cs = true) : callT ctx 67 args cs = denK ctx 67 (codeOf Tryz.f67) (entry 16 gl0 args cs fp67.sites) (finK Tryz.prog fp67 cs.length []) :=
 call_run rfl rfl Tryz.func67 rfl (by kernel_rfl) Tryz.ntmps67 (by rw [Tryz.results67]) rfl rfl h
@[simp] theorem keepE68 : ctx.keep 68 = keep68 ∧ (ctx.gh 68 = fun _ => []) ∧ ctx.md 68 = md68 ∧ ctx.fp 68 = fp68 ∧ (ctx.fl 68 = fun _ => []) ∧ ctx.od 68 = od68 := ⟨rfl, rfl, rfl, rfl, rfl, rfl⟩
theorem run68 {args : List AV} {cs : List Cont} (h : callOk 28 fp68 args cs = true) : callT ctx 68 args cs = denK ctx 68 (codeOf Tryz.f68) (entry 28 gl0 args cs fp68.sites) (finK Tryz.prog fp68 cs.length [.tmp 4]) :=
 call_run rfl rfl Tryz.func68 rfl (by kernel_rfl) Tryz.ntmps68 (by rw [Tryz.results68]) rfl rfl h
@[simp] theorem keepE73 : ctx.keep 73 = keep73 ∧ (ctx.gh 73 = fun _ => []) ∧ ctx.md 73 = md73 ∧ ctx.fp 73 = fp73 ∧ (ctx.fl 73 = fun _ => []) ∧ ctx.od 73 = od73 := ⟨rfl, rfl, rfl, rfl, rfl, rfl⟩
theorem run73 {args : List AV} {cs : List Cont} (h : callOk 30 fp73 args cs = true) : callT ctx 73 args cs = denK ctx 73 (codeOf Tryz.f73) (entry 30 gl0 args cs fp73.sites) (finK Tryz.prog fp73 cs.length [.tmp 2]) :=
 call_run rfl rfl Tryz.func73 rfl (by kernel_rfl) Tryz.ntmps73 (by rw [Tryz.results73]) rfl rfl h
@[simp] theorem keepE80 : ctx.keep 80 = keep80 ∧ (ctx.gh 80 = fun _ => []) ∧ ctx.md 80 = md80 ∧ ctx.fp 80 = fp80 ∧ (ctx.fl 80 = fun _ => []) ∧ ctx.od 80 = od80 := ⟨rfl, rfl, rfl, rfl, rfl, rfl⟩
theorem run80 {args : List AV} {cs : List Cont} (h : callOk 136 fp80 args cs = true) : callT ctx 80 args cs = denK ctx 80 (codeOf Tryz.f80) (entry 136 gl0 args cs fp80.sites) (finK Tryz.prog fp80 cs.length [.tmp 4, .tmp 5]) :=
 call_run rfl rfl Tryz.func80 rfl (by kernel_rfl) Tryz.ntmps80 (by rw [Tryz.results80]) rfl rfl h
@[simp] theorem keepE81 : ctx.keep 81 = keep81 ∧ (ctx.gh 81 = fun _ => []) ∧ ctx.md 81 = md81 ∧ ctx.fp 81 = fp81 ∧ (ctx.fl 81 = fun _ => []) ∧ ctx.od 81 = od81 := ⟨rfl, rfl, rfl, rfl, rfl, rfl⟩
theorem run81 {args : List AV} {cs : List Cont} (h : callOk 15 fp81 args cs = true) : callT ctx 81 args cs = denK ctx 81 (codeOf Tryz.f81) (entry 15 gl0 args cs fp81.sites) (finK Tryz.prog fp81 cs.length [.tmp 2]) :=
 call_run rfl rfl Tryz.func81 rfl (by kernel_rfl) Tryz.ntmps81 (by rw [Tryz.results81]) rfl rfl h
@[simp] theorem keepE82 : ctx.keep 82 = keep82 ∧ (ctx.gh 82 = fun _ => []) ∧ ctx.md 82 = md82 ∧ ctx.fp 82 = fp82 ∧ (ctx.fl 82 = fun _ => []) ∧ ctx.od 82 = od82 := ⟨rfl, rfl, rfl, rfl, rfl, rfl⟩
@[simp] theorem keepE83 : ctx.keep 83 = keep83 ∧ (ctx.gh 83 = fun _ => []) ∧ ctx.md 83 = md83 ∧ ctx.fp 83 = fp83 ∧ (ctx.fl 83 = fun _ => []) ∧ ctx.od 83 = od83 := ⟨rfl, rfl, rfl, rfl, rfl, rfl⟩
theorem run83 {args : List AV} {cs : List Cont} (h : callOk 27 fp83 args cs = true) : callT ctx 83 args cs = denK ctx 83 (codeOf Tryz.f83) (entry 27 gl0 args cs fp83.sites) (finK Tryz.prog fp83 cs.length [.tmp 2, .tmp 3, .tmp 4]) :=
 call_run rfl rfl Tryz.func83 rfl (by kernel_rfl) Tryz.ntmps83 (by rw [Tryz.results83]) rfl rfl h
@[simp] theorem keepE84 : ctx.keep 84 = keep84 ∧ (ctx.gh 84 = fun _ => []) ∧ ctx.md 84 = md84 ∧ ctx.fp 84 = fp84 ∧ (ctx.fl 84 = fun _ => []) ∧ ctx.od 84 = od84 := ⟨rfl, rfl, rfl, rfl, rfl, rfl⟩
theorem run84 {args : List AV} {cs : List Cont} (h : callOk 126 fp84 args cs = true) : callT ctx 84 args cs = denK ctx 84 (codeOf Tryz.f84) (entry 126 gl0 args cs fp84.sites) (finK Tryz.prog fp84 cs.length [.tmp 2]) :=
 call_run rfl rfl Tryz.func84 rfl (by kernel_rfl) Tryz.ntmps84 (by rw [Tryz.results84]) rfl rfl h
@[simp] theorem keepE85 : ctx.keep 85 = keep85 ∧ (ctx.gh 85 = fun _ => []) ∧ ctx.md 85 = md85 ∧ ctx.fp 85 = fp85 ∧ (ctx.fl 85 = fun _ => []) ∧ ctx.od 85 = od85 := ⟨rfl, rfl, rfl, rfl, rfl, rfl⟩
theorem run85 {args : List AV} {cs : List Cont} (h : callOk 25 fp85 args cs = true) : callT ctx 85 args cs = denK ctx 85 (codeOf Tryz.f85) (entry 25 gl0 args cs fp85.sites) (finK Tryz.prog fp85 cs.length [.tmp 2]) :=
 call_run rfl rfl Tryz.func85 rfl (by kernel_rfl) Tryz.ntmps85 (by rw [Tryz.results85]) rfl rfl h
@[simp] theorem keepE88 : ctx.keep 88 = keep88 ∧ (ctx.gh 88 = fun _ => []) ∧ ctx.md 88 = md88 ∧ ctx.fp 88 = fp88 ∧ (ctx.fl 88 = fun _ => []) ∧ ctx.od 88 = od88 := ⟨rfl, rfl, rfl, rfl, rfl, rfl⟩
theorem run88 {args : List AV} {cs : List Cont} (h : callOk 20 fp88 args cs = true) : callT ctx 88 args cs = denK ctx 88 (codeOf Tryz.f88) (entry 20 gl0 args cs fp88.sites) (finK Tryz.prog fp88 cs.length [.tmp 2]) :=
 call_run rfl rfl Tryz.func88 rfl (by kernel_rfl) Tryz.ntmps88 (by rw [Tryz.results88]) rfl rfl h
@[simp] theorem keepE98 : ctx.keep 98 = keep98 ∧ (ctx.gh 98 = fun _ => []) ∧ ctx.md 98 = md98 ∧ ctx.fp 98 = fp98 ∧ (ctx.fl 98 = fun _ => []) ∧ ctx.od 98 = od98 := ⟨rfl, rfl, rfl, rfl, rfl, rfl⟩
theorem run98 {args : List AV} {cs : List Cont} (h : callOk 62 fp98 args cs = true) : callT ctx 98 args cs = denK ctx 98 (codeOf Tryz.f98) (entry 62 gl0 args cs fp98.sites) (finK Tryz.prog fp98 cs.length [.tmp 2, .tmp 3, .cell 4 104]) :=
 call_run rfl rfl Tryz.func98 rfl (by kernel_rfl) Tryz.ntmps98 (by rw [Tryz.results98]) rfl rfl h
@[simp] theorem keepE99 : ctx.keep 99 = keep99 ∧ (ctx.gh 99 = fun _ => []) ∧ ctx.md 99 = md99 ∧ ctx.fp 99 = fp99 ∧ (ctx.fl 99 = fun _ => []) ∧ ctx.od 99 = od99 := ⟨rfl, rfl, rfl, rfl, rfl, rfl⟩
theorem run99 {args ys : List AV} {rv : AV} {cs : List Cont} (hl : args.getLast? = some rv) (hy : args.dropLast = ys) (h : callOk 22 fp99 ys cs = true) : recT ctx 99 args cs = denRK ctx 99 rv (codeOf Tryz.f99) (entry 22 gl0 ys cs fp99.sites) (finRK Tryz.prog fp99 cs.length []) :=
 rec_run Tryz.func99 rfl Tryz.ntmps99 (by rw [Tryz.results99]) rfl hl hy h
@[simp] theorem keepE100 : ctx.keep 100 = keep100 ∧ (ctx.gh 100 = fun _ => []) ∧ ctx.md 100 = md100 ∧ ctx.fp 100 = fp100 ∧ (ctx.fl 100 = fun _ => []) ∧ ctx.od 100 = od100 := ⟨rfl, rfl, rfl, rfl, rfl, rfl⟩
@[simp] theorem keepE101 : ctx.keep 101 = keep101 ∧ (ctx.gh 101 = fun _ => []) ∧ ctx.md 101 = md101 ∧ ctx.fp 101 = fp101 ∧ (ctx.fl 101 = fun _ => []) ∧ ctx.od 101 = od101 := ⟨rfl, rfl, rfl, rfl, rfl, rfl⟩
theorem run101 {args : List AV} {cs : List Cont} (h : callOk 11 fp101 args cs = true) : callT ctx 101 args cs = denK ctx 101 (codeOf Tryz.f101) (entry 11 gl0 args cs fp101.sites) (finK Tryz.prog fp101 cs.length []) :=
 call_run rfl rfl Tryz.func101 rfl (by kernel_rfl) Tryz.ntmps101 (by rw [Tryz.results101]) rfl rfl h
@[simp] theorem keepE102 : ctx.keep 102 = keep102 ∧ (ctx.gh 102 = fun _ => []) ∧ ctx.md 102 = md102 ∧ ctx.fp 102 = fp102 ∧ (ctx.fl 102 = fun _ => []) ∧ ctx.od 102 = od102 := ⟨rfl, rfl, rfl, rfl, rfl, rfl⟩
theorem run102 {args : List AV} {cs : List Cont} (h : callOk 9 fp102 args cs = true) : callT ctx 102 args cs = denK ctx 102 (codeOf Tryz.f102) (entry 9 gl0 args cs fp102.sites) (finK Tryz.prog fp102 cs.length [.tmp 4]) :=
 call_run rfl rfl Tryz.func102 rfl (by kernel_rfl) Tryz.ntmps102 (by rw [Tryz.results102]) rfl rfl h
@[simp] theorem keepE103 : ctx.keep 103 = keep103 ∧ (ctx.gh 103 = fun _ => []) ∧ ctx.md 103 = md103 ∧ ctx.fp 103 = fp103 ∧ (ctx.fl 103 = fun _ => []) ∧ ctx.od 103 = od103 := ⟨rfl, rfl, rfl, rfl, rfl, rfl⟩
theorem run103 {args : List AV} {cs : List Cont} (h : callOk 9 fp103 args cs = true) : callT ctx 103 args cs = denK ctx 103 (codeOf Tryz.f103) (entry 9 gl0 args cs fp103.sites) (finK Tryz.prog fp103 cs.length [.tmp 3]) :=
 call_run rfl rfl Tryz.func103 rfl (by kernel_rfl) Tryz.ntmps103 (by rw [Tryz.results103]) rfl rfl h
@[simp] theorem keepE104 : ctx.keep 104 = keep104 ∧ (ctx.gh 104 = fun _ => []) ∧ ctx.md 104 = md104 ∧ ctx.fp 104 = fp104 ∧ (ctx.fl 104 = fun _ => []) ∧ ctx.od 104 = od104 := ⟨rfl, rfl, rfl, rfl, rfl, rfl⟩
theorem run104 {args : List AV} {cs : List Cont} (h : callOk 69 fp104 args cs = true) : callT ctx 104 args cs = denK ctx 104 (codeOf Tryz.f104) (entry 69 gl0 args cs fp104.sites) (finK Tryz.prog fp104 cs.length []) :=
 call_run rfl rfl Tryz.func104 rfl (by kernel_rfl) Tryz.ntmps104 (by rw [Tryz.results104]) rfl rfl h
@[simp] theorem keepE112 : ctx.keep 112 = keep112 ∧ (ctx.gh 112 = fun _ => []) ∧ ctx.md 112 = md112 ∧ ctx.fp 112 = fp112 ∧ (ctx.fl 112 = fun _ => []) ∧ ctx.od 112 = od112 := ⟨rfl, rfl, rfl, rfl, rfl, rfl⟩
theorem run112 {args : List AV} {cs : List Cont} (h : callOk 17 fp112 args cs = true) : callT ctx 112 args cs = denK ctx 112 (codeOf Tryz.f112) (entry 17 gl0 args cs fp112.sites) (finK Tryz.prog fp112 cs.length [.cell 2 186, .tmp 3]) :=
 call_run rfl rfl Tryz.func112 rfl (by kernel_rfl) Tryz.ntmps112 (by rw [Tryz.results112]) rfl rfl h
@[simp] theorem keepE121 : ctx.keep 121 = keep121 ∧ (ctx.gh 121 = fun _ => []) ∧ ctx.md 121 = md121 ∧ ctx.fp 121 = fp121 ∧ (ctx.fl 121 = fun _ => []) ∧ ctx.od 121 = od121 := ⟨rfl, rfl, rfl, rfl, rfl, rfl⟩
theorem run121 {args : List AV} {cs : List Cont} (h : callOk 44 fp121 args cs = true) : callT ctx 121 args cs = denK ctx 121 (codeOf Tryz.f121) (entry 44 gl0 args cs fp121.sites) (finK Tryz.prog fp121 cs.length [.tmp 4, .tmp 5]) :=
 call_run rfl rfl Tryz.func121 rfl (by kernel_rfl) Tryz.ntmps121 (by rw [Tryz.results121]) rfl rfl h
@[simp] theorem keepE142 : ctx.keep 142 = keep142 ∧ (ctx.gh 142 = fun _ => []) ∧ ctx.md 142 = md142 ∧ ctx.fp 142 = fp142 ∧ (ctx.fl 142 = fun _ => []) ∧ ctx.od 142 = od142 := ⟨rfl, rfl, rfl, rfl, rfl, rfl⟩
theorem run142 {args : List AV} {cs : List Cont} (h : callOk 51 fp142 args cs = true) : callT ctx 142 args cs = denK ctx 142 (codeOf Tryz.f142) (entry 51 gl0 args cs fp142.sites) (finK Tryz.prog fp142 cs.length [.tmp 2]) :=
 call_run rfl rfl Tryz.func142 rfl (by kernel_rfl) Tryz.ntmps142 (by rw [Tryz.results142]) rfl rfl h
@[simp] theorem keepE143 : ctx.keep 143 = keep143 ∧ (ctx.gh 143 = fun _ => []) ∧ ctx.md 143 = md143 ∧ ctx.fp 143 = fp143 ∧ (ctx.fl 143 = fun _ => []) ∧ ctx.od 143 = od143 := ⟨rfl, rfl, rfl, rfl, rfl, rfl⟩
theorem run143 {args : List AV} {cs : List Cont} (h : callOk 12 fp143 args cs = true) : callT ctx 143 args cs = denK ctx 143 (codeOf Tryz.f143) (entry 12 gl0 args cs fp143.sites) (finK Tryz.prog fp143 cs.length [.tmp 2]) :=
 call_run rfl rfl Tryz.func143 rfl (by kernel_rfl) Tryz.ntmps143 (by rw [Tryz.results143]) rfl rfl h
@[simp] theorem keepE144 : ctx.keep 144 = keep144 ∧ (ctx.gh 144 = fun _ => []) ∧ ctx.md 144 = md144 ∧ ctx.fp 144 = fp144 ∧ (ctx.fl 144 = fun _ => []) ∧ ctx.od 144 = od144 := ⟨rfl, rfl, rfl, rfl, rfl, rfl⟩
theorem run144 {args : List AV} {cs : List Cont} (h : callOk 54 fp144 args cs = true) : callT ctx 144 args cs = denK ctx 144 (codeOf Tryz.f144) (entry 54 gl0 args cs fp144.sites) (finK Tryz.prog fp144 cs.length [.cell 4 104, .tmp 5]) :=
 call_run rfl rfl Tryz.func144 rfl (by kernel_rfl) Tryz.ntmps144 (by rw [Tryz.results144]) rfl rfl h
@[simp] theorem keepE145 : ctx.keep 145 = keep145 ∧ (ctx.gh 145 = fun _ => []) ∧ ctx.md 145 = md145 ∧ ctx.fp 145 = fp145 ∧ (ctx.fl 145 = fun _ => []) ∧ ctx.od 145 = od145 := ⟨rfl, rfl, rfl, rfl, rfl, rfl⟩
theorem run145 {args : List AV} {cs : List Cont} (h : callOk 42 fp145 args cs = true) : callT ctx 145 args cs = denK ctx 145 (codeOf Tryz.f145) (entry 42 gl0 args cs fp145.sites) (finK Tryz.prog fp145 cs.length []) :=
 call_run rfl rfl Tryz.func145 rfl (by kernel_rfl) Tryz.ntmps145 (by rw [Tryz.results145]) rfl rfl h
@[simp] theorem keepE150 : ctx.keep 150 = keep150 ∧ (ctx.gh 150 = fun _ => []) ∧ ctx.md 150 = md150 ∧ ctx.fp 150 = fp150 ∧ (ctx.fl 150 = fun _ => []) ∧ ctx.od 150 = od150 := ⟨rfl, rfl, rfl, rfl, rfl, rfl⟩
theorem run150 {args : List AV} {cs : List Cont} (h : callOk 8 fp150 args cs = true) : callT ctx 150 args cs = denK ctx 150 (codeOf Tryz.f150) (entry 8 gl0 args cs fp150.sites) (finK Tryz.prog fp150 cs.length []) :=
 call_run rfl rfl Tryz.func150 rfl (by kernel_rfl) Tryz.ntmps150 (by rw [Tryz.results150]) rfl rfl h
@[simp] theorem keepE151 : ctx.keep 151 = keep151 ∧ (ctx.gh 151 = fun _ => []) ∧ ctx.md 151 = md151 ∧ ctx.fp 151 = fp151 ∧ (ctx.fl 151 = fun _ => []) ∧ ctx.od 151 = od151 := ⟨rfl, rfl, rfl, rfl, rfl, rfl⟩
theorem run151 {args : List AV} {cs : List Cont} (h : callOk 19 fp151 args cs = true) : callT ctx 151 args cs = denK ctx 151 (codeOf Tryz.f151) (entry 19 gl0 args cs fp151.sites) (finK Tryz.prog fp151 cs.length [.tmp 4]) :=
 call_run rfl rfl Tryz.func151 rfl (by kernel_rfl) Tryz.ntmps151 (by rw [Tryz.results151]) rfl rfl h
@[simp] theorem keepE152 : ctx.keep 152 = keep152 ∧ (ctx.gh 152 = fun _ => []) ∧ ctx.md 152 = md152 ∧ ctx.fp 152 = fp152 ∧ (ctx.fl 152 = fun _ => []) ∧ ctx.od 152 = od152 := ⟨rfl, rfl, rfl, rfl, rfl, rfl⟩
theorem run152 {args : List AV} {cs : List Cont} (h : callOk 35 fp152 args cs = true) : callT ctx 152 args cs = denK ctx 152 (codeOf Tryz.f152) (entry 35 gl0 args cs fp152.sites) (finK Tryz.prog fp152 cs.length []) :=
 call_run rfl rfl Tryz.func152 rfl (by kernel_rfl) Tryz.ntmps152 (by rw [Tryz.results152]) rfl rfl h
@[simp] theorem keepE153 : ctx.keep 153 = keep153 ∧ (ctx.gh 153 = fun _ => []) ∧ ctx.md 153 = md153 ∧ ctx.fp 153 = fp153 ∧ (ctx.fl 153 = fun _ => []) ∧ ctx.od 153 = od153 := ⟨rfl, rfl, rfl, rfl, rfl, rfl⟩
theorem run153 {args : List AV} {cs : List Cont} (h : callOk 30 fp153 args cs = true) : callT ctx 153 args cs = denK ctx 153 (codeOf Tryz.f153) (entry 30 gl0 args cs fp153.sites) (finK Tryz.prog fp153 cs.length []) :=
 call_run rfl rfl Tryz.func153 rfl (by kernel_rfl) Tryz.ntmps153 (by rw [Tryz.results153]) rfl rfl h
@[simp] theorem keepE154 : ctx.keep 154 = keep154 ∧ (ctx.gh 154 = fun _ => []) ∧ ctx.md 154 = md154 ∧ ctx.fp 154 = fp154 ∧ (ctx.fl 154 = fun _ => []) ∧ ctx.od 154 = od154 := ⟨rfl, rfl, rfl, rfl, rfl, rfl⟩
theorem run154 {args : List AV} {cs : List Cont} (h : callOk 11 fp154 args cs = true) : callT ctx 154 args cs = denK ctx 154 (codeOf Tryz.f154) (entry 11 gl0 args cs fp154.sites) (finK Tryz.prog fp154 cs.length []) :=
 call_run rfl rfl Tryz.func154 rfl (by kernel_rfl) Tryz.ntmps154 (by rw [Tryz.results154]) rfl rfl h
@[simp] theorem keepE155 : ctx.keep 155 = keep155 ∧ (ctx.gh 155 = fun _ => []) ∧ ctx.md 155 = md155 ∧ ctx.fp 155 = fp155 ∧ (ctx.fl 155 = fun _ => []) ∧ ctx.od 155 = od155 := ⟨rfl, rfl, rfl, rfl, rfl, rfl⟩
theorem run155 {args : List AV} {cs : List Cont} (h : callOk 47 fp155 args cs = true) : callT ctx 155 args cs = denK ctx 155 (codeOf Tryz.f155) (entry 47 gl0 args cs fp155.sites) (finK Tryz.prog fp155 cs.length []) :=
 call_run rfl rfl Tryz.func155 rfl (by kernel_rfl) Tryz.ntmps155 (by rw [Tryz.results155]) rfl rfl h
@[simp] theorem keepE156 : ctx.keep 156 = keep156 ∧ (ctx.gh 156 = fun _ => []) ∧ ctx.md 156 = md156 ∧ ctx.fp 156 = fp156 ∧ (ctx.fl 156 = fun _ => []) ∧ ctx.od 156 = od156 := ⟨rfl, rfl, rfl, rfl, rfl, rfl⟩
theorem run156 {args : List AV} {cs : List Cont} (h : callOk 11 fp156 args cs = true) : callT ctx 156 args cs = denK ctx 156 (codeOf Tryz.f156) (entry 11 gl0 args cs fp156.sites) (finK Tryz.prog fp156 cs.length []) :=
 call_run rfl rfl Tryz.func156 rfl (by kernel_rfl) Tryz.ntmps156 (by rw [Tryz.results156]) rfl rfl h
@[simp] theorem keepE157 : ctx.keep 157 = keep157 ∧ (ctx.gh 157 = fun _ => []) ∧ ctx.md 157 = md157 ∧ ctx.fp 157 = fp157 ∧ (ctx.fl 157 = fun _ => []) ∧ ctx.od 157 = od157 := ⟨rfl, rfl, rfl, rfl, rfl, rfl⟩
theorem run157 {args : List AV} {cs : List Cont} (h : callOk 21 fp157 args cs = true) : callT ctx 157 args cs = denK ctx 157 (codeOf Tryz.f157) (entry 21 gl0 args cs fp157.sites) (finK Tryz.prog fp157 cs.length []) :=
 call_run rfl rfl Tryz.func157 rfl (by kernel_rfl) Tryz.ntmps157 (by rw [Tryz.results157]) rfl rfl h
@[simp] theorem keepE158 : ctx.keep 158 = keep158 ∧ (ctx.gh 158 = fun _ => []) ∧ ctx.md 158 = md158 ∧ ctx.fp 158 = fp158 ∧ (ctx.fl 158 = fun _ => []) ∧ ctx.od 158 = od158 := ⟨rfl, rfl, rfl, rfl, rfl, rfl⟩
theorem run158 {args : List AV} {cs : List Cont} (h : callOk 70 fp158 args cs = true) : callT ctx 158 args cs = denK ctx 158 (codeOf Tryz.f158) (entry 70 gl0 args cs fp158.sites) (finK Tryz.prog fp158 cs.length []) :=
 call_run rfl rfl Tryz.func158 rfl (by kernel_rfl) Tryz.ntmps158 (by rw [Tryz.results158]) rfl rfl h
@[simp] theorem keepE163 : ctx.keep 163 = keep163 ∧ (ctx.gh 163 = fun _ => []) ∧ ctx.md 163 = md163 ∧ ctx.fp 163 = fp163 ∧ (ctx.fl 163 = fun _ => []) ∧ ctx.od 163 = od163 := ⟨rfl, rfl, rfl, rfl, rfl, rfl⟩
@[simp] theorem keepE164 : ctx.keep 164 = keep164 ∧ (ctx.gh 164 = fun _ => []) ∧ ctx.md 164 = md164 ∧ ctx.fp 164 = fp164 ∧ (ctx.fl 164 = fun _ => []) ∧ ctx.od 164 = od164 := ⟨rfl, rfl, rfl, rfl, rfl, rfl⟩
theorem run164 {args : List AV} {cs : List Cont} (h : callOk 19 fp164 args cs = true) : callT ctx 164 args cs = denK ctx 164 (codeOf Tryz.f164) (entry 19 gl0 args cs fp164.sites) (finK Tryz.prog fp164 cs.length [.tmp 4]) :=
 call_run rfl rfl Tryz.func164 rfl (by kernel_rfl) Tryz.ntmps164 (by rw [Tryz.results164]) rfl rfl h
@[simp] theorem keepE165 : ctx.keep 165 = keep165 ∧ (ctx.gh 165 = fun _ => []) ∧ ctx.md 165 = md165 ∧ ctx.fp 165 = fp165 ∧ (ctx.fl 165 = fun _ => []) ∧ ctx.od 165 = od165 := ⟨rfl, rfl, rfl, rfl, rfl, rfl⟩
theorem run165 {args : List AV} {cs : List Cont} (h : callOk 8 fp165 args cs = true) : callT ctx 165 args cs = denK ctx 165 (codeOf Tryz.f165) (entry 8 gl0 args cs fp165.sites) (finK Tryz.prog fp165 cs.length [.tmp 3]) :=
 call_run rfl rfl Tryz.func165 rfl (by kernel_rfl) Tryz.ntmps165 (by rw [Tryz.results165]) rfl rfl h
@[simp] theorem keepE166 : ctx.keep 166 = keep166 ∧ (ctx.gh 166 = fun _ => []) ∧ ctx.md 166 = md166 ∧ ctx.fp 166 = fp166 ∧ (ctx.fl 166 = fun _ => []) ∧ ctx.od 166 = od166 := ⟨rfl, rfl, rfl, rfl, rfl, rfl⟩
@[simp] theorem keepE199 : ctx.keep 199 = keep199 ∧ (ctx.gh 199 = fun _ => []) ∧ ctx.md 199 = md199 ∧ ctx.fp 199 = fp199 ∧ (ctx.fl 199 = fun _ => []) ∧ ctx.od 199 = od199 := ⟨rfl, rfl, rfl, rfl, rfl, rfl⟩
@[simp] theorem orc_run199 {args : List AV} {cs : List Cont} : callT ctx 199 args cs = orcAns (liftO hpO) args cs := callT_orc rfl rfl
@[simp] theorem keepE200 : ctx.keep 200 = keep200 ∧ (ctx.gh 200 = fun _ => []) ∧ ctx.md 200 = md200 ∧ ctx.fp 200 = fp200 ∧ (ctx.fl 200 = fun _ => []) ∧ ctx.od 200 = od200 := ⟨rfl, rfl, rfl, rfl, rfl, rfl⟩
theorem run200 {args : List AV} {cs : List Cont} (h : callOk 8 fp200 args cs = true) : callT ctx 200 args cs = denK ctx 200 (codeOf Tryz.f200) (entry 8 gl0 args cs fp200.sites) (finK Tryz.prog fp200 cs.length [.tmp 4]) :=
 call_run rfl rfl Tryz.func200 rfl (by kernel_rfl) Tryz.ntmps200 (by rw [Tryz.results200]) rfl rfl h
@[simp] theorem keepE201 : ctx.keep 201 = keep201 ∧ (ctx.gh 201 = fun _ => []) ∧ ctx.md 201 = md201 ∧ ctx.fp 201 = fp201 ∧ (ctx.fl 201 = fun _ => []) ∧ ctx.od 201 = od201 := ⟨rfl, rfl, rfl, rfl, rfl, rfl⟩
@[simp] theorem orc_run201 {args : List AV} {cs : List Cont} : callT ctx 201 args cs = orcAns (liftO idxO) args cs := callT_orc rfl rfl
@[simp] theorem keepE202 : ctx.keep 202 = keep202 ∧ (ctx.gh 202 = fun _ => []) ∧ ctx.md 202 = md202 ∧ ctx.fp 202 = fp202 ∧ (ctx.fl 202 = fun _ => []) ∧ ctx.od 202 = od202 := ⟨rfl, rfl, rfl, rfl, rfl, rfl⟩
theorem run202 {args : List AV} {cs : List Cont} (h : callOk 17 fp202 args cs = true) : callT ctx 202 args cs = denK ctx 202 (codeOf Tryz.f202) (entry 17 gl0 args cs fp202.sites) (finK Tryz.prog fp202 cs.length [.tmp 2]) :=
 call_run rfl rfl Tryz.func202 rfl (by kernel_rfl) Tryz.ntmps202 (by rw [Tryz.results202]) rfl rfl h
@[simp] theorem keepE203 : ctx.keep 203 = keep203 ∧ (ctx.gh 203 = fun _ => []) ∧ ctx.md 203 = md203 ∧ ctx.fp 203 = fp203 ∧ (ctx.fl 203 = fun _ => []) ∧ ctx.od 203 = od203 := ⟨rfl, rfl, rfl, rfl, rfl, rfl⟩
theorem run203 {args : List AV} {cs : List Cont} (h : callOk 20 fp203 args cs = true) : callT ctx 203 args cs = denK ctx 203 (codeOf Tryz.f203) (entry 20 gl0 args cs fp203.sites) (finK Tryz.prog fp203 cs.length [.tmp 4]) :=
 call_run rfl rfl Tryz.func203 rfl (by kernel_rfl) Tryz.ntmps203 (by rw [Tryz.results203]) rfl rfl h
@[simp] theorem keepE204 : ctx.keep 204 = keep204 ∧ (ctx.gh 204 = fun _ => []) ∧ ctx.md 204 = md204 ∧ ctx.fp 204 = fp204 ∧ (ctx.fl 204 = fun _ => []) ∧ ctx.od 204 = od204 := ⟨rfl, rfl, rfl, rfl, rfl, rfl⟩
theorem run204 {args : List AV} {cs : List Cont} (h : callOk 13 fp204 args cs = true) : callT ctx 204 args cs = denK ctx 204 (codeOf Tryz.f204) (entry 13 gl0 args cs fp204.sites) (finK Tryz.prog fp204 cs.length [.tmp 2]) :=
 call_run rfl rfl Tryz.func204 rfl (by kernel_rfl) Tryz.ntmps204 (by rw [Tryz.results204]) rfl rfl h
@[simp] theorem keepE205 : ctx.keep 205 = keep205 ∧ (ctx.gh 205 = fun _ => []) ∧ ctx.md 205 = md205 ∧ ctx.fp 205 = fp205 ∧ (ctx.fl 205 = fun _ => []) ∧ ctx.od 205 = od205 := ⟨rfl, rfl, rfl, rfl, rfl, rfl⟩
theorem run205 {args : List AV} {cs : List Cont} (h : callOk 6 fp205 args cs = true) : callT ctx 205 args cs = denK ctx 205 (codeOf Tryz.f205) (entry 6 gl0 args cs fp205.sites) (finK Tryz.prog fp205 cs.length [.tmp 2]) :=
 call_run rfl rfl Tryz.func205 rfl (by kernel_rfl) Tryz.ntmps205 (by rw [Tryz.results205]) rfl rfl h
@[simp] theorem keepE206 : ctx.keep 206 = keep206 ∧ (ctx.gh 206 = fun _ => []) ∧ ctx.md 206 = md206 ∧ ctx.fp 206 = fp206 ∧ (ctx.fl 206 = fun _ => []) ∧ ctx.od 206 = od206 := ⟨rfl, rfl, rfl, rfl, rfl, rfl⟩
theorem run206 {args : List AV} {cs : List Cont} (h : callOk 9 fp206 args cs = true) : callT ctx 206 args cs = denK ctx 206 (codeOf Tryz.f206) (entry 9 gl0 args cs fp206.sites) (finK Tryz.prog fp206 cs.length [.tmp 2]) :=
 call_run rfl rfl Tryz.func206 rfl (by kernel_rfl) Tryz.ntmps206 (by rw [Tryz.results206]) rfl rfl h
@[simp] theorem keepE207 : ctx.keep 207 = keep207 ∧ (ctx.gh 207 = fun _ => []) ∧ ctx.md 207 = md207 ∧ ctx.fp 207 = fp207 ∧ (ctx.fl 207 = fun _ => []) ∧ ctx.od 207 = od207 := ⟨rfl, rfl, rfl, rfl, rfl, rfl⟩
theorem run207 {args : List AV} {cs : List Cont} (h : callOk 83 fp207 args cs = true) : callT ctx 207 args cs = denK ctx 207 (codeOf Tryz.f207) (entry 83 gl0 args cs fp207.sites) (finK Tryz.prog fp207 cs.length [.tmp 2, .tmp 3, .tmp 4]) :=
 call_run rfl rfl Tryz.func207 rfl (by kernel_rfl) Tryz.ntmps207 (by rw [Tryz.results207]) rfl rfl h
@[simp] theorem keepE208 : ctx.keep 208 = keep208 ∧ (ctx.gh 208 = fun _ => []) ∧ ctx.md 208 = md208 ∧ ctx.fp 208 = fp208 ∧ (ctx.fl 208 = fun _ => []) ∧ ctx.od 208 = od208 := ⟨rfl, rfl, rfl, rfl, rfl, rfl⟩
theorem run208 {args : List AV} {cs : List Cont} (h : callOk 19 fp208 args cs = true) : callT ctx 208 args cs = denK ctx 208 (codeOf Tryz.f208) (entry 19 gl0 args cs fp208.sites) (finK Tryz.prog fp208 cs.length [.tmp 2]) :=
 call_run rfl rfl Tryz.func208 rfl (by kernel_rfl) Tryz.ntmps208 (by rw [Tryz.results208]) rfl rfl h
@[simp] theorem keepE217 : ctx.keep 217 = keep217 ∧ (ctx.gh 217 = fun _ => []) ∧ ctx.md 217 = md217 ∧ ctx.fp 217 = fp217 ∧ (ctx.fl 217 = fun _ => []) ∧ ctx.od 217 = od217 := ⟨rfl, rfl, rfl, rfl, rfl, rfl⟩
theorem run217 {args : List AV} {cs : List Cont} (h : callOk 25 fp217 args cs = true) : callT ctx 217 args cs = denK ctx 217 (codeOf Tryz.f217) (entry 25 gl0 args cs fp217.sites) (finK Tryz.prog fp217 cs.length [.cell 6 49]) :=
 call_run rfl rfl Tryz.func217 rfl (by kernel_rfl) Tryz.ntmps217 (by rw [Tryz.results217]) rfl rfl h
@[simp] theorem keepE218 : ctx.keep 218 = keep218 ∧ (ctx.gh 218 = fun _ => []) ∧ ctx.md 218 = md218 ∧ ctx.fp 218 = fp218 ∧ (ctx.fl 218 = fun _ => []) ∧ ctx.od 218 = od218 := ⟨rfl, rfl, rfl, rfl, rfl, rfl⟩
theorem run218 {args : List AV} {cs : List Cont} (h : callOk 36 fp218 args cs = true) : callT ctx 218 args cs = denK ctx 218 (codeOf Tryz.f218) (entry 36 gl0 args cs fp218.sites) (finK Tryz.prog fp218 cs.length [.tmp 6]) :=
 call_run rfl rfl Tryz.func218 rfl (by kernel_rfl) Tryz.ntmps218 (by rw [Tryz.results218]) rfl rfl h
@[simp] theorem keepE219 : ctx.keep 219 = keep219 ∧ (ctx.gh 219 = fun _ => []) ∧ ctx.md 219 = md219 ∧ ctx.fp 219 = fp219 ∧ (ctx.fl 219 = fun _ => []) ∧ ctx.od 219 = od219 := ⟨rfl, rfl, rfl, rfl, rfl, rfl⟩
theorem run219 {args : List AV} {cs : List Cont} (h : callOk 97 fp219 args cs = true) : callT ctx 219 args cs = denK ctx 219 (codeOf Tryz.f219) (entry 97 gl0 args cs fp219.sites) (finK Tryz.prog fp219 cs.length [.tmp 4]) :=
 call_run rfl rfl Tryz.func219 rfl (by kernel_rfl) Tryz.ntmps219 (by rw [Tryz.results219]) rfl rfl h
@[simp] theorem keepE220 : ctx.keep 220 = keep220 ∧ (ctx.gh 220 = fun _ => []) ∧ ctx.md 220 = md220 ∧ ctx.fp 220 = fp220 ∧ (ctx.fl 220 = fun _ => []) ∧ ctx.od 220 = od220 := ⟨rfl, rfl, rfl, rfl, rfl, rfl⟩
theorem run220 {args : List AV} {cs : List Cont} (h : callOk 6 fp220 args cs = true) : callT ctx 220 args cs = denK ctx 220 (codeOf Tryz.f220) (entry 6 gl0 args cs fp220.sites) (finK Tryz.prog fp220 cs.length [.tmp 2]) :=
 call_run rfl rfl Tryz.func220 rfl (by kernel_rfl) Tryz.ntmps220 (by rw [Tryz.results220]) rfl rfl h
@[simp] theorem keepE221 : ctx.keep 221 = keep221 ∧ (ctx.gh 221 = fun _ => []) ∧ ctx.md 221 = md221 ∧ ctx.fp 221 = fp221 ∧ (ctx.fl 221 = fun _ => []) ∧ ctx.od 221 = od221 := ⟨rfl, rfl, rfl, rfl, rfl, rfl⟩
theorem run221 {args : List AV} {cs : List Cont} (h : callOk 21 fp221 args cs = true) : callT ctx 221 args cs = denK ctx 221 (codeOf Tryz.f221) (entry 21 gl0 args cs fp221.sites) (finK Tryz.prog fp221 cs.length [.cell 4 191, .tmp 5]) :=
 call_run rfl rfl Tryz.func221 rfl (by kernel_rfl) Tryz.ntmps221 (by rw [Tryz.results221]) rfl rfl h
@[simp] theorem keepE222 : ctx.keep 222 = keep222 ∧ (ctx.gh 222 = fun _ => []) ∧ ctx.md 222 = md222 ∧ ctx.fp 222 = fp222 ∧ (ctx.fl 222 = fun _ => []) ∧ ctx.od 222 = od222 := ⟨rfl, rfl, rfl, rfl, rfl, rfl⟩
theorem run222 {args : List AV} {cs : List Cont} (h : callOk 9 fp222 args cs = true) : callT ctx 222 args cs = denK ctx 222 (codeOf Tryz.f222) (entry 9 gl0 args cs fp222.sites) (finK Tryz.prog fp222 cs.length [.tmp 4]) :=
 call_run rfl rfl Tryz.func222 rfl (by kernel_rfl) Tryz.ntmps222 (by rw [Tryz.results222]) rfl rfl h
@[simp] theorem keepE243 : ctx.keep 243 = keep243 ∧ (ctx.gh 243 = fun _ => []) ∧ ctx.md 243 = md243 ∧ ctx.fp 243 = fp243 ∧ (ctx.fl 243 = fun _ => []) ∧ ctx.od 243 = od243 := ⟨rfl, rfl, rfl, rfl, rfl, rfl⟩
theorem run243 {args : List AV} {cs : List Cont} (h : callOk 19 fp243 args cs = true) : callT ctx 243 args cs = denK ctx 243 (codeOf Tryz.f243) (entry 19 gl0 args cs fp243.sites) (finK Tryz.prog fp243 cs.length [.tmp 4]) :=
 call_run rfl rfl Tryz.func243 rfl (by kernel_rfl) Tryz.ntmps243 (by rw [Tryz.results243]) rfl rfl h
@[simp] theorem keepE246 : ctx.keep 246 = keep246 ∧ (ctx.gh 246 = fun _ => []) ∧ ctx.md 246 = md246 ∧ ctx.fp 246 = fp246 ∧ (ctx.fl 246 = fun _ => []) ∧ ctx.od 246 = od246 := ⟨rfl, rfl, rfl, rfl, rfl, rfl⟩
@[simp] theorem orc_run246 {args : List AV} {cs : List Cont} : callT ctx 246 args cs = orcAns (liftO ibO) args cs := callT_orc rfl rfl
@[simp] theorem keepE248 : ctx.keep 248 = keep248 ∧ (ctx.gh 248 = fun _ => []) ∧ ctx.md 248 = md248 ∧ ctx.fp 248 = fp248 ∧ (ctx.fl 248 = fun _ => []) ∧ ctx.od 248 = od248 := ⟨rfl, rfl, rfl, rfl, rfl, rfl⟩
theorem run248 {args : List AV} {cs : List Cont} (h : callOk 8 fp248 args cs = true) : callT ctx 248 args cs = denK ctx 248 (codeOf Tryz.f248) (entry 8 gl0 args cs fp248.sites) (finK Tryz.prog fp248 cs.length [.tmp 3]) :=
 call_run rfl rfl Tryz.func248 rfl (by kernel_rfl) Tryz.ntmps248 (by rw [Tryz.results248]) rfl rfl h
@[simp] theorem keepE249 : ctx.keep 249 = keep249 ∧ (ctx.gh 249 = fun _ => []) ∧ ctx.md 249 = md249 ∧ ctx.fp 249 = fp249 ∧ (ctx.fl 249 = fun _ => []) ∧ ctx.od 249 = od249 := ⟨rfl, rfl, rfl, rfl, rfl, rfl⟩
theorem run249 {args : List AV} {cs : List Cont} (h : callOk 20 fp249 args cs = true) : callT ctx 249 args cs = denK ctx 249 (codeOf Tryz.f249) (entry 20 gl0 args cs fp249.sites) (finK Tryz.prog fp249 cs.length [.tmp 2]) :=
 call_run rfl rfl Tryz.func249 rfl (by kernel_rfl) Tryz.ntmps249 (by rw [Tryz.results249]) rfl rfl h
@[simp] theorem keepE256 : ctx.keep 256 = keep256 ∧ (ctx.gh 256 = fun _ => []) ∧ ctx.md 256 = md256 ∧ ctx.fp 256 = fp256 ∧ (ctx.fl 256 = fun _ => []) ∧ ctx.od 256 = od256 := ⟨rfl, rfl, rfl, rfl, rfl, rfl⟩
theorem run256 {args : List AV} {cs : List Cont} (h : callOk 8 fp256 args cs = true) : callT ctx 256 args cs = denK ctx 256 (codeOf Tryz.f256) (entry 8 gl0 args cs fp256.sites) (finK Tryz.prog fp256 cs.length [.tmp 3]) :=
 call_run rfl rfl Tryz.func256 rfl (by kernel_rfl) Tryz.ntmps256 (by rw [Tryz.results256]) rfl rfl h
@[simp] theorem keepE257 : ctx.keep 257 = keep257 ∧ (ctx.gh 257 = fun _ => []) ∧ ctx.md 257 = md257 ∧ ctx.fp 257 = fp257 ∧ (ctx.fl 257 = fun _ => []) ∧ ctx.od 257 = od257 := ⟨rfl, rfl, rfl, rfl, rfl, rfl⟩
theorem run257 {args : List AV} {cs : List Cont} (h : callOk 32 fp257 args cs = true) : callT ctx 257 args cs = denK ctx 257 (codeOf Tryz.f257) (entry 32 gl0 args cs fp257.sites) (finK Tryz.prog fp257 cs.length [.tmp 4]) :=
 call_run rfl rfl Tryz.func257 rfl (by kernel_rfl) Tryz.ntmps257 (by rw [Tryz.results257]) rfl rfl h
@[simp] theorem keepE258 : ctx.keep 258 = keep258 ∧ (ctx.gh 258 = fun _ => []) ∧ ctx.md 258 = md258 ∧ ctx.fp 258 = fp258 ∧ (ctx.fl 258 = fun _ => []) ∧ ctx.od 258 = od258 := ⟨rfl, rfl, rfl, rfl, rfl, rfl⟩
theorem run258 {args : List AV} {cs : List Cont} (h : callOk 23 fp258 args cs = true) : callT ctx 258 args cs = denK ctx 258 (codeOf Tryz.f258) (entry 23 gl0 args cs fp258.sites) (finK Tryz.prog fp258 cs.length [.tmp 4]) :=
 call_run rfl rfl Tryz.func258 rfl (by kernel_rfl) Tryz.ntmps258 (by rw [Tryz.results258]) rfl rfl h
@[simp] theorem keepE259 : ctx.keep 259 = keep259 ∧ (ctx.gh 259 = fun _ => []) ∧ ctx.md 259 = md259 ∧ ctx.fp 259 = fp259 ∧ (ctx.fl 259 = fun _ => []) ∧ ctx.od 259 = od259 := ⟨rfl, rfl, rfl, rfl, rfl, rfl⟩
theorem run259 {args : List AV} {cs : List Cont} (h : callOk 9 fp259 args cs = true) : callT ctx 259 args cs = denK ctx 259 (codeOf Tryz.f259) (entry 9 gl0 args cs fp259.sites) (finK Tryz.prog fp259 cs.length [.tmp 4]) :=
 call_run rfl rfl Tryz.func259 rfl (by kernel_rfl) Tryz.ntmps259 (by rw [Tryz.results259]) rfl rfl h
@[simp] theorem keepE260 : ctx.keep 260 = keep260 ∧ (ctx.gh 260 = fun _ => []) ∧ ctx.md 260 = md260 ∧ ctx.fp 260 = fp260 ∧ (ctx.fl 260 = fun _ => []) ∧ ctx.od 260 = od260 := ⟨rfl, rfl, rfl, rfl, rfl, rfl⟩
theorem run260 {args : List AV} {cs : List Cont} (h : callOk 12 fp260 args cs = true) : callT ctx 260 args cs = denK ctx 260 (codeOf Tryz.f260) (entry 12 gl0 args cs fp260.sites) (finK Tryz.prog fp260 cs.length [.tmp 3]) :=
 call_run rfl rfl Tryz.func260 rfl (by kernel_rfl) Tryz.ntmps260 (by rw [Tryz.results260]) rfl rfl h
@[simp] theorem keepE261 : ctx.keep 261 = keep261 ∧ (ctx.gh 261 = fun _ => []) ∧ ctx.md 261 = md261 ∧ ctx.fp 261 = fp261 ∧ (ctx.fl 261 = fun _ => []) ∧ ctx.od 261 = od261 := ⟨rfl, rfl, rfl, rfl, rfl, rfl⟩
theorem run261 {args : List AV} {cs : List Cont} (h : callOk 19 fp261 args cs = true) : callT ctx 261 args cs = denK ctx 261 (codeOf Tryz.f261) (entry 19 gl0 args cs fp261.sites) (finK Tryz.prog fp261 cs.length [.tmp 4]) :=
 call_run rfl rfl Tryz.func261 rfl (by kernel_rfl) Tryz.ntmps261 (by rw [Tryz.results261]) rfl rfl h
@[simp] theorem keepE292 : ctx.keep 292 = keep292 ∧ (ctx.gh 292 = fun _ => []) ∧ ctx.md 292 = md292 ∧ ctx.fp 292 = fp292 ∧ (ctx.fl 292 = fun _ => []) ∧ ctx.od 292 = od292 := ⟨rfl, rfl, rfl, rfl, rfl, rfl⟩
theorem run292 {args : List AV} {cs : List Cont} (h : callOk 9 fp292 args cs = true) : callT ctx 292 args cs = denK ctx 292 (codeOf Tryz.f292) (entry 9 gl0 args cs fp292.sites) (finK Tryz.prog fp292 cs.length [.tmp 4]) :=
 call_run rfl rfl Tryz.func292 rfl (by kernel_rfl) Tryz.ntmps292 (by rw [Tryz.results292]) rfl rfl h
@[simp] theorem keepE293 : ctx.keep 293 = keep293 ∧ (ctx.gh 293 = fun _ => []) ∧ ctx.md 293 = md293 ∧ ctx.fp 293 = fp293 ∧ (ctx.fl 293 = fun _ => []) ∧ ctx.od 293 = od293 := ⟨rfl, rfl, rfl, rfl, rfl, rfl⟩
theorem run293 {args : List AV} {cs : List Cont} (h : callOk 7 fp293 args cs = true) : callT ctx 293 args cs = denK ctx 293 (codeOf Tryz.f293) (entry 7 gl0 args cs fp293.sites) (finK Tryz.prog fp293 cs.length [.tmp 3]) :=
 call_run rfl rfl Tryz.func293 rfl (by kernel_rfl) Tryz.ntmps293 (by rw [Tryz.results293]) rfl rfl h
@[simp] theorem keepE309 : ctx.keep 309 = keep309 ∧ (ctx.gh 309 = fun _ => []) ∧ ctx.md 309 = md309 ∧ ctx.fp 309 = fp309 ∧ (ctx.fl 309 = fun _ => []) ∧ ctx.od 309 = od309 := ⟨rfl, rfl, rfl, rfl, rfl, rfl⟩
theorem run309 {args : List AV} {cs : List Cont} (h : callOk 19 fp309 args cs = true) : callT ctx 309 args cs = denK ctx 309 (codeOf Tryz.f309) (entry 19 gl0 args cs fp309.sites) (finK Tryz.prog fp309 cs.length [.tmp 4]) :=
 call_run rfl rfl Tryz.func309 rfl (by kernel_rfl) Tryz.ntmps309 (by rw [Tryz.results309]) rfl rfl h
end Go.Am
end
section
namespace Go.Am
open Go
@[simp] theorem range_2 : List.range 2 = [0, 1] := rfl
@[simp] theorem range_3 : List.range 3 = [0, 1, 2] := rfl
@[simp] theorem range_4 : List.range 4 = [0, 1, 2, 3] := rfl
@[simp] theorem range_5 : List.range 5 = [0, 1, 2, 3, 4] := rfl
@[simp] theorem range_6 : List.range 6 = [0, 1, 2, 3, 4, 5] := rfl
@[simp] theorem int_beq (a b : Int) : (a == b) = decide (a = b) := by by_cases h : a = b <;> simp [h]
def I64 (n : Int) : Prop := -9223372036854775808 ≤ n ∧ n ≤ 9223372036854775807
theorem wrap_id {n : Int} (h : I64 n) : IntKind.i64.wrap n = n := IntWalk.i64_in _ (by unfold I64 at h; omega)
end Go.Am
end
section
namespace Go.Am
abbrev Tx := List UInt8
def letterB (c : UInt8) : Bool := decide (65 ≤ c.toNat) && decide (c.toNat ≤ 90) || decide (97 ≤ c.toNat) && decide (c.toNat ≤ 122)
def digitB (c : UInt8) : Bool := decide (48 ≤ c.toNat) && decide (c.toNat ≤ 57)
def innerB (c : UInt8) : Bool := letterB c || digitB c || decide (c.toNat = 95)
def blankB (c : UInt8) : Bool := decide (c.toNat = 32) || decide (c.toNat = 10) || decide (c.toNat = 9)
def valB (c : UInt8) : Nat := if digitB c then c.toNat - 48 else if 65 ≤ c.toNat ∧ c.toNat ≤ 70 then c.toNat - 65 + 10 else 99
def plStep (p : Int × Int) (c : UInt8) : Int × Int := if c = 10 then (p.1 + 1, 1) else (p.1, p.2 + 1)
def plOf (s : Tx) : Int × Int := s.foldl plStep (1, 1)
theorem plOf_bound : ∀ (s : Tx) (p : Int × Int) (n : Nat), 1 ≤ p.1 → p.1 ≤ n → 1 ≤ p.2 → p.2 ≤ n → 1 ≤ (s.foldl plStep p).1 ∧ (s.foldl plStep p).1 ≤ n + s.length ∧ 1 ≤ (s.foldl plStep p).2 ∧ (s.foldl plStep p).2 ≤ n + s.length
 | [], p, n, h1, h2, h3, h4 => by simp; omega
 | c :: r, p, n, h1, h2, h3, h4 => by
  have h := plOf_bound r (plStep p c) (n + 1) (by unfold plStep; split <;> simp <;> omega) (by unfold plStep; split <;> simp <;> omega) (by unfold plStep; split <;> simp <;> omega) (by unfold plStep; split <;> simp <;> omega)
  simp only [List.foldl_cons, List.length_cons]
  omega
theorem plOf_take {s : Tx} {i : Nat} : 1 ≤ (plOf (s.take i)).1 ∧ (plOf (s.take i)).1 ≤ s.length + 1 ∧ 1 ≤ (plOf (s.take i)).2 ∧ (plOf (s.take i)).2 ≤ s.length + 1 := by
 have h := plOf_bound (s.take i) (1, 1) 1 (by simp) (by simp) (by simp) (by simp)
 have hl : (s.take i).length ≤ s.length := by simp; omega
 unfold plOf
 omega
theorem plOf_succ {s : Tx} {i : Nat} (h : i < s.length) : plOf (s.take (i + 1)) = plStep (plOf (s.take i)) s[i] := by
 unfold plOf
 rw [List.take_add_one, List.getElem?_eq_getElem h, List.foldl_append]
 rfl
def findEnd : Tx → Option Nat
 | [] => none
 | c :: r => if c = 42 ∧ r.head? = some 41 then some 0 else (findEnd r).map (· + 1)
def lineN (s : Tx) : Nat := (s.takeWhile (· ≠ 10)).length
theorem lineN_le (s : Tx) : lineN s ≤ s.length := by unfold lineN; exact (List.takeWhile_prefix _).length_le
theorem u8beq (a c : UInt8) : (a == c) = decide (c = a) := by
 by_cases h : c = a
 · simp [h]
 · simp [h]; exact fun e => h e.symm
theorem indexByte_line : ∀ (t : Tx), Go.Lib.indexByte t 10 = if lineN t < t.length then (lineN t : Int) else -1
 | [] => rfl
 | c :: r => by
  have ih := indexByte_line r
  unfold Go.Lib.indexByte
  by_cases hc : c = 10
  · subst hc; simp [lineN]
  · have e : lineN (c :: r) = lineN r + 1 := by simp [lineN, hc]
    rw [e, ih]
    simp only [beq_iff_eq, hc, if_false, List.length_cons]
    by_cases h : lineN r < r.length
    · simp only [if_pos h]
      rw [if_neg (by omega), if_pos (by omega)]; omega
    · simp [h]
theorem findEnd_le : ∀ {t : Tx} {m : Nat}, findEnd t = some m → m + 2 ≤ t.length
 | [], m, h => by cases h
 | c :: r, m, h => by
  unfold findEnd at h
  split at h
  · rename_i hc
    cases h
    cases r with
    | nil => simp at hc
    | cons d r => simp
  · cases hf : findEnd r with
    | none => rw [hf] at h; cases h
    | some n =>
     rw [hf] at h
     cases h
     have := findEnd_le hf
     simp; omega
theorem index_end : ∀ (t : Tx), Go.Lib.index t [42, 41] = match findEnd t with | none => -1 | some m => (m : Int)
 | [] => rfl
 | c :: r => by
  have ih := index_end r
  unfold Go.Lib.index findEnd
  have e : (([42, 41] : Tx).isPrefixOf (c :: r)) = decide (c = 42 ∧ r.head? = some 41) := by
   cases r with
   | nil => simp [List.isPrefixOf]
   | cons d r => simp [List.isPrefixOf, u8beq]
  rw [e, ih]
  by_cases hc : c = 42 ∧ r.head? = some 41
  · simp [hc]
  · rw [if_neg hc]
    simp only [hc, decide_false, Bool.false_eq_true, if_false]
    cases hf : findEnd r with
    | none => simp
    | some n => simp
theorem hasPrefix2 (a b c : UInt8) (r : Tx) : Go.Lib.hasPrefix (c :: r) [a, b] = (decide (c = a) && decide (r.head? = some b)) := by
 unfold Go.Lib.hasPrefix
 cases r with
 | nil => simp [List.isPrefixOf]
 | cons d r => simp [List.isPrefixOf, u8beq]
def gapC : Nat → Tx → Nat × Bool
 | 0, _ => (0, true)
 | _ + 1, [] => (0, true)
 | f + 1, c :: r =>
  if blankB c then (1 + (gapC f r).1, (gapC f r).2)
  else if c = 47 ∧ r.head? = some 47 then (lineN (c :: r) + (gapC f ((c :: r).drop (lineN (c :: r)))).1, (gapC f ((c :: r).drop (lineN (c :: r)))).2)
  else if c = 40 ∧ r.head? = some 42 then match findEnd r.tail with
   | none => (0, false)
   | some m => (m + 4 + (gapC f ((c :: r).drop (m + 4))).1, (gapC f ((c :: r).drop (m + 4))).2)
  else (0, true)
def headN (s : Tx) : Nat × Nat := if [49, 54, 35].isPrefixOf s then (16, 3) else if [56, 35].isPrefixOf s then (8, 2) else if [50, 35].isPrefixOf s then (2, 2) else (10, 0)
def valN (base : Nat) : Nat → Tx → Option Nat
 | x, [] => some x
 | x, c :: r => if (9223372036854775807 - valB c) / base < x then none else valN base (x * base + valB c) r
def numG (s : Tx) (b h : Nat) (ds : Tx) : Nat × Nat × Nat :=
 if ds = [] ∨ (∃ c, s[h + ds.length]? = some c ∧ (innerB c = true ∨ c = 35)) then (0, 0, 5)
 else match valN b 0 ds with
  | none => (0, 0, 2)
  | some x => (h + ds.length, x, 0)
def numF (s : Tx) : Nat × Nat × Nat := numG s (headN s).1 (headN s).2 ((s.drop (headN s).2).takeWhile (fun c => decide (valB c < (headN s).1)))
def signs1 : Tx := [43, 45, 42, 47, 40, 41, 91, 93, 46, 44, 59, 58, 60, 62, 61]
def signs2 : List Tx := [[58, 61], [60, 61], [62, 61], [60, 62], [46, 46]]
def signF (s : Tx) : Nat := if signs2.any (fun p => p.isPrefixOf s) then 2 else match s with
 | [] => 0
 | c :: _ => if c ∈ signs1 then 1 else 0
theorem gapC_le : ∀ (f : Nat) (t : Tx), (gapC f t).1 ≤ t.length
 | 0, _ => by simp [gapC]
 | _ + 1, [] => by simp [gapC]
 | f + 1, c :: r => by
  unfold gapC
  split
  · have := gapC_le f r; simp; omega
  · split
    · have h1 := gapC_le f ((c :: r).drop (lineN (c :: r)))
      have h2 := lineN_le (c :: r)
      simp only [List.length_drop] at h1
      simp only; omega
    · split
      · split
        · simp
        · rename_i m hm
          have h1 := gapC_le f ((c :: r).drop (m + 4))
          have h2 := findEnd_le hm
          have h3 : r.tail.length = r.length - 1 := by simp
          simp only [List.length_drop, List.length_cons] at h1 ⊢
          omega
      · simp
def wordsT : Tx := [80, 82, 79, 71, 82, 65, 77, 32, 69, 78, 68, 95, 80, 82, 79, 71, 82, 65, 77, 32, 86, 65, 82, 32, 86, 65, 82, 95, 73, 78, 80, 85, 84, 32, 86, 65, 82, 95, 79, 85, 84, 80, 85, 84, 32, 69, 78, 68, 95, 86, 65, 82, 32, 73, 78, 84, 32, 66, 79, 79, 76, 32, 65, 82, 82, 65, 89, 32, 79, 70, 32, 84, 82, 85, 69, 32, 70, 65, 76, 83, 69, 32, 73, 70, 32, 84, 72, 69, 78, 32, 69, 76, 83, 73, 70, 32, 69, 76, 83, 69, 32, 69, 78, 68, 95, 73, 70, 32, 67, 65, 83, 69, 32, 69, 78, 68, 95, 67, 65, 83, 69, 32, 70, 79, 82, 32, 84, 79, 32, 66, 89, 32, 68, 79, 32, 69, 78, 68, 95, 70, 79, 82, 32, 87, 72, 73, 76, 69, 32, 69, 78, 68, 95, 87, 72, 73, 76, 69, 32, 82, 69, 80, 69, 65, 84, 32, 85, 78, 84, 73, 76, 32, 69, 78, 68, 95, 82, 69, 80, 69, 65, 84, 32, 69, 88, 73, 84, 32, 82, 69, 84, 85, 82, 78, 32, 65, 78, 68, 32, 79, 82, 32, 88, 79, 82, 32, 78, 79, 84, 32, 77, 79, 68]
def wordsL : List Tx := [[80, 82, 79, 71, 82, 65, 77], [69, 78, 68, 95, 80, 82, 79, 71, 82, 65, 77], [86, 65, 82], [86, 65, 82, 95, 73, 78, 80, 85, 84], [86, 65, 82, 95, 79, 85, 84, 80, 85, 84], [69, 78, 68, 95, 86, 65, 82], [73, 78, 84], [66, 79, 79, 76], [65, 82, 82, 65, 89], [79, 70], [84, 82, 85, 69], [70, 65, 76, 83, 69], [73, 70], [84, 72, 69, 78], [69, 76, 83, 73, 70], [69, 76, 83, 69], [69, 78, 68, 95, 73, 70], [67, 65, 83, 69], [69, 78, 68, 95, 67, 65, 83, 69], [70, 79, 82], [84, 79], [66, 89], [68, 79], [69, 78, 68, 95, 70, 79, 82], [87, 72, 73, 76, 69], [69, 78, 68, 95, 87, 72, 73, 76, 69], [82, 69, 80, 69, 65, 84], [85, 78, 84, 73, 76], [69, 78, 68, 95, 82, 69, 80, 69, 65, 84], [69, 88, 73, 84], [82, 69, 84, 85, 82, 78], [65, 78, 68], [79, 82], [88, 79, 82], [78, 79, 84], [77, 79, 68]]
def wordB (s : Tx) : Bool := decide (s ∈ wordsL)
structure Sgn where
 kind : Int
 text : Tx
 n : Int
 line : Int
 col : Int
 deriving DecidableEq
def nextF (s : Tx) : Nat × Nat × Nat × Nat :=
 match s with
 | [] => (5, 0, 0, 0)
 | c :: _ =>
  if letterB c then
   if wordB (s.take (s.takeWhile innerB).length) then (0, 2, (s.takeWhile innerB).length, 0)
   else if 16 < (s.takeWhile innerB).length then (9, 1, 0, 0) else (0, 1, (s.takeWhile innerB).length, 0)
  else if digitB c then
   if (numF s).2.2 = 0 then (0, 3, (numF s).1, (numF s).2.1) else ((numF s).2.2, 0, 0, 0)
  else if signF s = 0 then (5, 0, 0, 0) else (0, 4, signF s, 0)
def here (p : Int × Int) : Sgn := ⟨0, [], 0, p.1, p.2⟩
def lexF (s : Tx) : Nat → Nat → List Sgn → List Sgn × Nat × Sgn
 | 0, _, _ => ([], 5, ⟨0, [], 0, 0, 0⟩)
 | f + 1, i, out =>
  if (gapC (s.length + 1) (s.drop i)).2 = false then ([], 5, here (plOf (s.take (i + (gapC (s.length + 1) (s.drop i)).1))))
  else if s.drop (i + (gapC (s.length + 1) (s.drop i)).1) = [] then (out ++ [here (plOf (s.take (i + (gapC (s.length + 1) (s.drop i)).1)))], 0, ⟨0, [], 0, 0, 0⟩)
  else if (nextF (s.drop (i + (gapC (s.length + 1) (s.drop i)).1))).1 ≠ 0 then ([], (nextF (s.drop (i + (gapC (s.length + 1) (s.drop i)).1))).1, here (plOf (s.take (i + (gapC (s.length + 1) (s.drop i)).1))))
  else lexF s f (i + (gapC (s.length + 1) (s.drop i)).1 + (nextF (s.drop (i + (gapC (s.length + 1) (s.drop i)).1))).2.2.1)
   (out ++ [⟨(nextF (s.drop (i + (gapC (s.length + 1) (s.drop i)).1))).2.1, (s.drop (i + (gapC (s.length + 1) (s.drop i)).1)).take (nextF (s.drop (i + (gapC (s.length + 1) (s.drop i)).1))).2.2.1, (nextF (s.drop (i + (gapC (s.length + 1) (s.drop i)).1))).2.2.2,
    (plOf (s.take (i + (gapC (s.length + 1) (s.drop i)).1))).1, (plOf (s.take (i + (gapC (s.length + 1) (s.drop i)).1))).2⟩])
def lexP (s : Tx) : List Sgn × Nat × Sgn := if 16384 < s.length then ([], 13, ⟨0, [], 0, 1, 1⟩) else lexF s (s.length + 1) 0 []
@[simp] def sgnD (t : Sgn) : D := .agg [.int .i64 t.kind, .str t.text, .int .i64 t.n, .int .i64 t.line, .int .i64 t.col]
end Go.Am
end
section
namespace Go.Am
open Go
inductive Ex where
 | mk (op n : Int) (name field : Tx) (sub : List Ex) (line : Int)
inductive Sm where
 | mk (op : Int) (name : Tx) (to val : Ex) (conds : List Ex) (labels : List (List Int)) (fields : List Tx) (blocks : List (List Sm)) (line : Int)
instance : Inhabited Ex := ⟨.mk 0 0 [] [] [] 0⟩
instance : Inhabited Sm := ⟨.mk 0 [] default default [] [] [] [] 0⟩
structure Vr where
 name : Tx
 ty : Int
 sec : Int
 arr : Bool
 lo : Int
 hi : Int
 init : Int
 line : Int
 deriving DecidableEq
structure Pg where
 name : Tx
 vars : List Vr
 body : List Sm
mutual
def exD : Ex → D
 | .mk op n name field sub line => .agg [.int .i64 op, .int .i64 n, .str name, .str field, .list (exDs sub), .int .i64 line]
def exDs : List Ex → List D
 | [] => []
 | x :: r => exD x :: exDs r
end
theorem exDs_eq : ∀ l : List Ex, exDs l = l.map exD
 | [] => rfl
 | x :: r => by simp [exDs, exDs_eq r]
def exC : Ex → List D
 | .mk op n name field sub line => [.int .i64 op, .int .i64 n, .str name, .str field, .list (exDs sub), .int .i64 line]
theorem exD_C (x : Ex) : exD x = .agg (exC x) := by cases x; rfl
def lbD (l : List Int) : D := .list (l.map fun n => .int .i64 n)
mutual
def smD : Sm → D
 | .mk op name to val conds labels fields blocks line => .agg (.int .i64 op :: .str name :: (exC to ++ (exC val ++ [.list (exDs conds), .list (labels.map lbD), .list (fields.map .str), .list (bksD blocks), .int .i64 line])))
def smDs : List Sm → List D
 | [] => []
 | x :: r => smD x :: smDs r
def bksD : List (List Sm) → List D
 | [] => []
 | b :: r => .list (smDs b) :: bksD r
end
theorem smDs_eq : ∀ l : List Sm, smDs l = l.map smD
 | [] => rfl
 | x :: r => by simp [smDs, smDs_eq r]
theorem bksD_eq : ∀ l : List (List Sm), bksD l = l.map fun b => .list (b.map smD)
 | [] => rfl
 | x :: r => by simp [bksD, bksD_eq r, smDs_eq]
def vrC (v : Vr) : List D := [.str v.name, .int .i64 v.ty, .int .i64 v.sec, .bool v.arr, .int .i64 v.lo, .int .i64 v.hi, .int .i64 v.init, .int .i64 v.line]
def vrD (v : Vr) : D := .agg (vrC v)
structure PS where
 at_ : Nat
 deep : Int
 vars : List Vr
structure Er where
 e : Int
 line : Int
 col : Int
 deriving DecidableEq
abbrev PM (α : Type) := PR Er PS α
section
variable (L : List Sgn)
def nowS (s : PS) : PM Sgn := match L[s.at_]? with
 | some t => .ok t s
 | none => .out
def isW (t : Sgn) (w : Tx) : Bool := (decide (t.kind = 2) || decide (t.kind = 4)) && decide (t.text = w)
def isS (w : Tx) (s : PS) : PM Bool := (nowS L s).bind fun t s => .ok (isW t w) s
structure Kd where
 at_ : Sgn
 kind : Int
 arr : Bool
 lo : Int
 hi : Int
end
def exo : Ex → Int | .mk a _ _ _ _ _ => a
def exn : Ex → Int | .mk _ a _ _ _ _ => a
def exa : Ex → Tx | .mk _ _ a _ _ _ => a
def exf : Ex → Tx | .mk _ _ _ a _ _ => a
def exs : Ex → List Ex | .mk _ _ _ _ a _ => a
def exl : Ex → Int | .mk _ _ _ _ _ a => a
@[simp] theorem exo_mk {a b c d e f} : exo (.mk a b c d e f) = a := rfl
@[simp] theorem exn_mk {a b c d e f} : exn (.mk a b c d e f) = b := rfl
@[simp] theorem exa_mk {a b c d e f} : exa (.mk a b c d e f) = c := rfl
@[simp] theorem exf_mk {a b c d e f} : exf (.mk a b c d e f) = d := rfl
@[simp] theorem exs_mk {a b c d e f} : exs (.mk a b c d e f) = e := rfl
@[simp] theorem exl_mk {a b c d e f} : exl (.mk a b c d e f) = f := rfl
theorem exC_A (x : Ex) : exC x = [.int .i64 (exo x), .int .i64 (exn x), .str (exa x), .str (exf x), .list ((exs x).map exD), .int .i64 (exl x)] := by cases x; simp [exC, exDs_eq]
theorem exD_A (x : Ex) : exD x = .agg [.int .i64 (exo x), .int .i64 (exn x), .str (exa x), .str (exf x), .list ((exs x).map exD), .int .i64 (exl x)] := by rw [exD_C, exC_A]
def smo : Sm → Int | .mk a _ _ _ _ _ _ _ _ => a
def sma : Sm → Tx | .mk _ a _ _ _ _ _ _ _ => a
def smt : Sm → Ex | .mk _ _ a _ _ _ _ _ _ => a
def smv : Sm → Ex | .mk _ _ _ a _ _ _ _ _ => a
def smc : Sm → List Ex | .mk _ _ _ _ a _ _ _ _ => a
def smlb : Sm → List (List Int) | .mk _ _ _ _ _ a _ _ _ => a
def smf : Sm → List Tx | .mk _ _ _ _ _ _ a _ _ => a
def smb : Sm → List (List Sm) | .mk _ _ _ _ _ _ _ a _ => a
def sml : Sm → Int | .mk _ _ _ _ _ _ _ _ a => a
@[simp] theorem smo_mk {a b c d e f g h i} : smo (.mk a b c d e f g h i) = a := rfl
@[simp] theorem sma_mk {a b c d e f g h i} : sma (.mk a b c d e f g h i) = b := rfl
@[simp] theorem smt_mk {a b c d e f g h i} : smt (.mk a b c d e f g h i) = c := rfl
@[simp] theorem smv_mk {a b c d e f g h i} : smv (.mk a b c d e f g h i) = d := rfl
@[simp] theorem smc_mk {a b c d e f g h i} : smc (.mk a b c d e f g h i) = e := rfl
@[simp] theorem smlb_mk {a b c d e f g h i} : smlb (.mk a b c d e f g h i) = f := rfl
@[simp] theorem smf_mk {a b c d e f g h i} : smf (.mk a b c d e f g h i) = g := rfl
@[simp] theorem smb_mk {a b c d e f g h i} : smb (.mk a b c d e f g h i) = h := rfl
@[simp] theorem sml_mk {a b c d e f g h i} : sml (.mk a b c d e f g h i) = i := rfl
def bkD (l : List Sm) : D := .list (l.map smD)
theorem smD_A (x : Sm) : smD x = .agg [.int .i64 (smo x), .str (sma x),
 .int .i64 (exo (smt x)), .int .i64 (exn (smt x)), .str (exa (smt x)), .str (exf (smt x)), .list ((exs (smt x)).map exD), .int .i64 (exl (smt x)),
 .int .i64 (exo (smv x)), .int .i64 (exn (smv x)), .str (exa (smv x)), .str (exf (smv x)), .list ((exs (smv x)).map exD), .int .i64 (exl (smv x)),
 .list ((smc x).map exD), .list ((smlb x).map lbD), .list ((smf x).map .str), .list ((smb x).map bkD), .int .i64 (sml x)] := by
 cases x
 simp [smD, exC_A, exDs_eq, bksD_eq, bkD]
def letB (c : UInt8) : Bool := (decide (65 ≤ c.toNat) && decide (c.toNat ≤ 90)) || (decide (97 ≤ c.toNat) && decide (c.toNat ≤ 122))
def digB (c : UInt8) : Bool := decide (48 ≤ c.toNat) && decide (c.toNat ≤ 57)
def nameL : List UInt8 → Nat → Bool
 | [], _ => true
 | c :: r, i => (letB c || (!decide (i = 0) && (decide (c = 95) || digB c))) && nameL r (i + 1)
def nameF (s : Tx) : Bool := decide (1 ≤ s.length) && (decide (s.length ≤ 16) && (!wordB s && nameL s 0))
structure Pn where
 name : Tx
 ty : Int
 inp : Bool
 deriving DecidableEq
def pnD (p : Pn) : D := .agg [.str p.name, .int .i64 p.ty, .bool p.inp]
def pnOf (ins outs : List (Tx × Bool)) (n : Nat) : List Pn := ins.map (fun x => ⟨x.1, if x.2 then 1 else 2, true⟩) ++ outs.map (fun x => ⟨x.1, if x.2 then 1 else 2, false⟩) ++ List.replicate n ⟨[], 1, false⟩
def fiveT : List (Tx × Bool) := [([68, 111, 110, 101], false), ([66, 117, 115, 121], false), ([65, 99, 116, 105, 118, 101], false), ([67, 111, 109, 109, 97, 110, 100, 65, 98, 111, 114, 116, 101, 100], false), ([69, 114, 114, 111, 114], false)]
def pnT : List (Int × List Pn) := [
 (10, pnOf [([73, 78], false), ([80, 84], true)] [([81], false), ([69, 84], true)] 0),
 (11, pnOf [([73, 78], false), ([80, 84], true)] [([81], false), ([69, 84], true)] 0),
 (12, pnOf [([73, 78], false), ([80, 84], true)] [([81], false), ([69, 84], true)] 2),
 (13, pnOf [([67, 85], false), ([82], false), ([80, 86], true)] [([81], false), ([67, 86], true)] 1),
 (14, pnOf [([67, 68], false), ([76, 68], false), ([80, 86], true)] [([81], false), ([67, 86], true)] 1),
 (15, pnOf [([67, 76, 75], false)] [([81], false)] 1),
 (16, pnOf [([67, 76, 75], false)] [([81], false)] 1),
 (17, pnOf [([83, 49], false), ([82], false)] [([81, 49], false)] 0),
 (18, pnOf [([83], false), ([82, 49], false)] [([81, 49], false)] 0),
 (20, pnOf [([65, 120, 105, 115], true), ([69, 110, 97, 98, 108, 101], false)] [([83, 116, 97, 116, 117, 115], false), ([69, 114, 114, 111, 114], false)] 0),
 (21, pnOf [([65, 120, 105, 115], true), ([69, 120, 101, 99, 117, 116, 101], false)] fiveT 2),
 (22, pnOf [([65, 120, 105, 115], true), ([69, 120, 101, 99, 117, 116, 101], false)] fiveT 2),
 (23, pnOf [([65, 120, 105, 115], true), ([69, 120, 101, 99, 117, 116, 101], false)] fiveT 2),
 (24, pnOf [([65, 120, 105, 115], true), ([69, 120, 101, 99, 117, 116, 101], false), ([80, 111, 115, 105, 116, 105, 111, 110], true), ([86, 101, 108, 111, 99, 105, 116, 121], true), ([66, 117, 102, 102, 101, 114, 77, 111, 100, 101], true)] fiveT 2),
 (25, pnOf [([65, 120, 105, 115], true), ([69, 120, 101, 99, 117, 116, 101], false), ([68, 105, 115, 116, 97, 110, 99, 101], true), ([86, 101, 108, 111, 99, 105, 116, 121], true), ([66, 117, 102, 102, 101, 114, 77, 111, 100, 101], true)] fiveT 2),
 (26, pnOf [([65, 120, 105, 115], true), ([69, 120, 101, 99, 117, 116, 101], false), ([68, 105, 115, 116, 97, 110, 99, 101], true), ([86, 101, 108, 111, 99, 105, 116, 121], true), ([66, 117, 102, 102, 101, 114, 77, 111, 100, 101], true)] fiveT 2),
 (27, pnOf [([65, 120, 105, 115], true), ([69, 120, 101, 99, 117, 116, 101], false), ([86, 101, 108, 111, 99, 105, 116, 121], true)] [([73, 110, 86, 101, 108, 111, 99, 105, 116, 121], false), ([66, 117, 115, 121], false), ([65, 99, 116, 105, 118, 101], false), ([67, 111, 109, 109, 97, 110, 100, 65, 98, 111, 114, 116, 101, 100], false), ([69, 114, 114, 111, 114], false)] 2),
 (28, pnOf [([65, 120, 105, 115], true), ([69, 120, 101, 99, 117, 116, 101], false), ([77, 97, 115, 116, 101, 114], true), ([78, 117, 109, 101, 114, 97, 116, 111, 114], true), ([68, 101, 110, 111, 109, 105, 110, 97, 116, 111, 114], true)] [([73, 110, 71, 101, 97, 114], false), ([66, 117, 115, 121], false), ([65, 99, 116, 105, 118, 101], false), ([67, 111, 109, 109, 97, 110, 100, 65, 98, 111, 114, 116, 101, 100], false), ([69, 114, 114, 111, 114], false)] 2),
 (29, pnOf [([65, 120, 105, 115], true), ([69, 120, 101, 99, 117, 116, 101], false)] [([68, 111, 110, 101], false), ([69, 114, 114, 111, 114], false)] 1),
 (30, pnOf [([65, 120, 105, 115], true), ([69, 120, 101, 99, 117, 116, 101], false), ([80, 111, 115, 105, 116, 105, 111, 110], true)] [([68, 111, 110, 101], false), ([69, 114, 114, 111, 114], false)] 1),
 (31, pnOf [([65, 120, 105, 115], true), ([69, 110, 97, 98, 108, 101], false), ([80, 101, 114, 99, 101, 110, 116], true)] [([69, 110, 97, 98, 108, 101, 100], false)] 0)]
def pinsT : List (Int × List Pn) → Int → List Pn
 | [], _ => []
 | (a, l) :: r, k => if a = k then l else pinsT r k
def pinsF (k : Int) : List Pn := pinsT pnT k
def pinL : List Pn → Tx → Option Pn
 | [], _ => none
 | p :: r, s => if p.name = s ∧ s ≠ [] then some p else pinL r s
def pinF (k : Int) (s : Tx) : Option Pn := pinL (pinsF k) s
def findV : List Vr → Tx → Option Vr
 | [], _ => none
 | v :: r, s => if v.name = s then some v else findV r s
def cellsF (v : Vr) : Int := if v.arr = true then v.hi - v.lo + 1 else if 2 < v.ty then (pinsF v.ty).length else 1
structure Te where
 t : Int
 e : Int
 line : Int
 deriving DecidableEq
def okT (t : Int) : Te := ⟨t, 0, 0⟩
def badT (e line : Int) : Te := ⟨0, e, line⟩
def takT (op t : Int) : Int := if op = 6 ∨ (8 ≤ op ∧ op ≤ 12) ∨ (15 ≤ op ∧ op ≤ 18) then 1 else if op = 13 ∨ op = 14 then t else 2
def givT (op : Int) : Int := if op = 6 ∨ (8 ≤ op ∧ op ≤ 12) then 1 else 2
def opT2 (op line : Int) (a b : Te) : Te :=
 if a.e ≠ 0 then ⟨0, a.e, a.line⟩ else if b.e ≠ 0 then ⟨0, b.e, b.line⟩ else
 if a.t ≠ takT op a.t ∨ b.t ≠ takT op a.t then badT 10 line else okT (givT op)
mutual
def tyX (vs : List Vr) : Ex → Te
 | .mk op _ name field sub line =>
  if op = 1 ∨ op = 2 then okT op
  else if op = 3 ∨ op = 4 ∨ op = 5 then
   match findV vs name with
   | none => badT 9 line
   | some v =>
    if op = 5 then (if v.ty ≤ 2 then badT 10 line else match pinF v.ty field with
     | none => badT 9 line
     | some p => okT p.ty)
    else if v.arr ≠ decide (op = 4) ∨ 2 < v.ty then badT 10 line
    else if op = 4 then tyI vs v.ty sub
    else okT v.ty
  else tyO vs op line sub
def tyI (vs : List Vr) (t : Int) : List Ex → Te
 | [] => okT t
 | x :: _ => if (tyX vs x).e ≠ 0 then badT (tyX vs x).e (tyX vs x).line else if (tyX vs x).t ≠ 1 then badT 10 (exl x) else okT t
def tyO (vs : List Vr) (op line : Int) : List Ex → Te
 | [] => okT 0
 | [x] => opT2 op line (tyX vs x) (tyX vs x)
 | x :: y :: _ => opT2 op line (tyX vs x) (tyX vs y)
end
def wantX (vs : List Vr) (x : Ex) (t : Int) : Int × Int := if (tyX vs x).e ≠ 0 then ((tyX vs x).e, (tyX vs x).line) else if (tyX vs x).t ≠ t then (10, exl x) else (0, 0)
def subsN (op : Int) : Nat := if op = 4 ∨ op = 6 ∨ op = 7 then 1 else if 7 < op then 2 else 0
mutual
def fitX : Ex → Bool
 | .mk op n name field sub _ =>
  !decide ((op = 1 ∧ n < 0) ∨ (op = 2 ∧ (n < 0 ∨ 1 < n)) ∨ (2 < op ∧ n ≠ 0) ∨ op < 1 ∨ 21 < op) &&
  (decide (sub.length = subsN op) && ((if op = 3 ∨ op = 4 ∨ op = 5 then nameF name else decide (name = [])) && ((if op = 5 then nameF field else decide (field = [])) && fitXs sub)))
def fitXs : List Ex → Bool
 | [] => true
 | x :: r => fitX x && fitXs r
end
def noneX (x : Ex) : Bool := decide (exo x = 0) && (decide (exn x = 0) && decide ((exa x).length + (exf x).length + (exs x).length = 0))
def labB (l : List Int) : Bool := !decide (l.length = 0) && (decide (l.length % 2 = 0) && l.all fun n => decide (n ≠ -9223372036854775808))
def shapeB (op : Int) (conds labels fields blocks : Nat) : Bool :=
 if op = 2 then decide (conds = max 1 conds) && (decide (labels = 0) && (decide (fields = 0) && (decide (max 1 conds ≤ blocks) && decide (blocks ≤ max 1 conds + 1))))
 else if op = 3 then decide (conds = 0) && (decide (fields = 0) && (decide (labels ≤ blocks) && decide (blocks ≤ labels + 1)))
 else if op = 4 then decide (conds = 3) && (decide (labels = 0) && (decide (fields = 0) && decide (blocks = 1)))
 else if op = 5 ∨ op = 6 then decide (conds = 0) && (decide (labels = 0) && (decide (fields = 0) && decide (blocks = 1)))
 else if op = 9 then decide (conds = fields) && (decide (labels = 0) && decide (blocks = 0))
 else decide (conds = 0) && (decide (labels = 0) && (decide (fields = 0) && decide (blocks = 0)))
mutual
def fitM : Sm → Bool
 | .mk op name to val conds labels fields blocks _ =>
  decide (1 ≤ op ∧ op ≤ 9) && ((if op = 4 ∨ op = 9 then nameF name else decide (name = [])) &&
  ((if op = 1 then decide (exo to = 3 ∨ exo to = 4) && fitX to else noneX to) &&
  ((if op = 1 ∨ op = 3 ∨ op = 5 ∨ op = 6 then !noneX val && fitX val else noneX val) &&
  (fitXs conds && (shapeB op conds.length labels.length fields.length blocks.length &&
  (fields.all nameF && (labels.all labB && fitBs blocks)))))))
def fitMs : List Sm → Bool
 | [] => true
 | x :: r => fitM x && fitMs r
def fitBs : List (List Sm) → Bool
 | [] => true
 | b :: r => fitMs b && fitBs r
end
def kindT (k : Int) : Bool := (pinsF k).length ≠ 0
def fitV (v : Vr) : Bool :=
 nameF v.name && (decide (0 ≤ v.sec ∧ v.sec ≤ 2) && (decide (v.ty = 1 ∨ v.ty = 2) || kindT v.ty) &&
 ((if v.arr = true then decide (v.ty ≤ 2 ∧ 0 ≤ v.lo ∧ v.lo ≤ v.hi ∧ v.hi ≤ 255) else decide (v.lo = 0 ∧ v.hi = 0)) &&
 !decide (((v.arr = true ∨ 2 < v.ty) ∧ v.init ≠ 0) ∨ (v.ty = 2 ∧ (v.init < 0 ∨ 1 < v.init)) ∨ v.init = -9223372036854775808)))
def fitP (p : Pg) : Bool := nameF p.name && (decide (p.vars.length ≤ 64) && (p.vars.all fitV && fitMs p.body))
abbrev EL := Int × Int
def orE (a b : EL) : EL := if a.1 ≠ 0 then a else b
def teE (a : Te) : EL := (a.e, a.line)
def asE (vs : List Vr) (to val : Ex) (line : Int) : EL :=
 match findV vs (exa to) with
 | none => (9, exl to)
 | some v => if v.sec = 1 then (1, exl to) else orE (teE (tyX vs to)) (orE (teE (tyX vs val)) (if (tyX vs val).t ≠ (tyX vs to).t then (10, line) else (0, 0)))
def wantsE (vs : List Vr) (t : Int) : List Ex → EL
 | [] => (0, 0)
 | x :: r => orE (wantX vs x t) (wantsE vs t r)
def callE (vs : List Vr) (k line : Int) : List Tx → List Ex → List Tx → EL
 | f :: fs, x :: xs, p => match pinF k f with
  | none => (9, line)
  | some q => if q.inp = false then (9, line) else if f ∈ p then (11, line) else orE (wantX vs x q.ty) (callE vs k line fs xs (p ++ [f]))
 | _, _, _ => (0, 0)
mutual
def chM (vs : List Vr) (loops : Bool) : Sm → EL
 | .mk op name to val conds _ fields blocks line =>
  if op = 1 then asE vs to val line
  else if op = 2 then chC vs loops conds blocks
  else if op = 3 then orE (wantX vs val 1) (chC vs loops [] blocks)
  else if op = 4 then (match findV vs name with
   | none => (9, line)
   | some v => if v.sec = 1 then (1, line) else if v.arr = true ∨ v.ty ≠ 1 then (10, line) else orE (wantsE vs 1 conds) (chH vs blocks))
  else if op = 5 then orE (wantX vs val 2) (chH vs blocks)
  else if op = 6 then orE (chH vs blocks) (wantX vs val 2)
  else if op = 7 then (if loops = true then (0, 0) else (14, line))
  else if op = 9 then (match findV vs name with
   | none => (9, line)
   | some v => if v.ty ≤ 2 then (10, line) else callE vs v.ty line fields conds [])
  else (0, 0)
def chMs (vs : List Vr) (loops : Bool) : List Sm → EL
 | [] => (0, 0)
 | x :: r => orE (chM vs loops x) (chMs vs loops r)
def chC (vs : List Vr) (loops : Bool) : List Ex → List (List Sm) → EL
 | _, [] => (0, 0)
 | [], b :: r => orE (chMs vs loops b) (chC vs loops [] r)
 | c :: cs, b :: r => orE (wantX vs c 2) (orE (chMs vs loops b) (chC vs loops cs r))
def chH (vs : List Vr) : List (List Sm) → EL
 | [] => (0, 0)
 | b :: _ => chMs vs true b
end
def chV : List Vr → List Vr → Int → EL
 | [], _, _ => (0, 0)
 | v :: r, p, n => if (findV p v.name).isSome then (11, v.line) else if 1024 < n + cellsF v then (13, v.line) else chV r (p ++ [v]) (n + cellsF v)
def checkP (p : Pg) : EL := orE (chV p.vars [] 0) (chMs p.vars false p.body)
def idxP {α : Type} (p : α → Bool) : List α → Nat → Int
 | [], _ => -1
 | x :: r, i => if p x = true then i else idxP p r (i + 1)
theorem idxP_range {α : Type} (p : α → Bool) : ∀ (l : List α) (i : Nat), idxP p l i = -1 ∨ (i ≤ idxP p l i ∧ idxP p l i < i + l.length)
 | [], i => .inl rfl
 | x :: r, i => by
  unfold idxP
  split
  · right; simp; omega
  · rcases idxP_range p r (i + 1) with h | h
    · exact .inl h
    · right; simp only [List.length_cons]; omega
theorem idxP_any {α : Type} (p : α → Bool) : ∀ (l : List α) (i : Nat), decide (0 ≤ idxP p l i) = l.any p
 | [], i => by simp [idxP]
 | x :: r, i => by
  unfold idxP
  cases h : p x with
  | true => simp [h]
  | false => simpa [h] using idxP_any p r (i + 1)
theorem idxP_any0 {α : Type} (p : α → Bool) (l : List α) (i : Nat) : (0 ≤ idxP p l i) ↔ l.any p = true := by
 rw [← idxP_any p l i]; simp
theorem idxP_get {α : Type} (p : α → Bool) : ∀ (l pre : List α), 0 ≤ idxP p l pre.length → ∃ x, (pre ++ l)[(idxP p l pre.length).toNat]? = some x ∧ l.find? p = some x ∧ (idxP p l pre.length).toNat < (pre ++ l).length
 | [], pre, h => by simp [idxP] at h
 | x :: r, pre, h => by
  unfold idxP at h ⊢
  by_cases hp : p x = true
  · rw [if_pos hp]
    exact ⟨x, by simp, by simp [hp], by simp⟩
  · rw [if_neg hp] at h ⊢
    have ih := idxP_get p r (pre ++ [x]) (by simpa using h)
    simp only [List.length_append, List.length_singleton, List.append_assoc, List.singleton_append] at ih
    obtain ⟨y, h1, h2, h3⟩ := ih
    exact ⟨y, h1, by simpa [hp] using h2, by simpa using h3⟩
theorem find_V (s : Tx) : ∀ l : List Vr, l.find? (fun v => decide (v.name = s)) = findV l s
 | [] => rfl
 | v :: r => by
  by_cases h : v.name = s
  · simp [findV, h]
  · simp [findV, h, find_V s r]
theorem find_P (s : Tx) : ∀ l : List Pn, l.find? (fun p => decide (p.name = s) && !decide (s = [])) = pinL l s
 | [] => rfl
 | p :: r => by
  by_cases h : p.name = s ∧ s ≠ []
  · simp [pinL, h]
  · have : (decide (p.name = s) && !decide (s = [])) = false := by
     by_cases h1 : p.name = s
     · have : s = [] := Classical.byContradiction fun h2 => h ⟨h1, h2⟩
       simp [this]
     · simp [h1]
    simp [pinL, this, find_P s r]
    simp only [ne_eq, not_and, Classical.not_not] at h
    intro h1 h2
    exact absurd (h h1) h2
theorem any_V (s : Tx) (l : List Vr) : (l.any fun v => decide (v.name = s)) = (findV l s).isSome := by
 rw [← find_V]; induction l with
 | nil => rfl
 | cons v r ih => by_cases h : v.name = s <;> simp [h, ih]
end Go.Am
end
section
namespace Go.Am
open Go Go.Proofs
variable [Inhabited Mx2]
set_option maxRecDepth 20000
def ftD (e l : Int) : D := .agg [.int .i64 e, .int .i64 l]
@[simp] theorem tx_beq2 (a b : Tx) : (a == b) = decide (a = b) := by by_cases h : a = b <;> simp [h]
theorem kfail_r (e l : Int) : callT ctx 150 [.d (.int .i64 e), .d (.int .i64 l)] [] = some (.panic 174 (ftD e l), []) := by
 rw [run150 (by simp)]
 simp [Tryz.f150, ftD]
theorem need_r (b : Bool) (e l : Int) : callT ctx 101 [.d (.bool b), .d (.int .i64 e), .d (.int .i64 l)] [] = if b = true then some (.ret (.tup []), []) else some (.panic 174 (ftD e l), []) := by
 rw [run101 (by simp)]
 cases b <;> simp [Tryz.f101, kfail_r]
theorem kvar1_r (s : Tx) (v : Vr) : callT ctx 256 [.d (vrD v), .ptr 0 0 0] [.box [.d (.str s)]] = some (.ret (.d (.bool (decide (v.name = s)))), [(0, .box [.d (.str s)])]) := by
 rw [run256 (by simp)]
 simp [Tryz.f256, vrD, vrC]
theorem kdec1_r (v x : Vr) : callT ctx 103 [.d (vrD x), .ptr 0 0 0] [.box [.d (.str v.name), .d (.int .i64 v.ty), .d (.int .i64 v.sec), .d (.bool v.arr), .d (.int .i64 v.lo), .d (.int .i64 v.hi), .d (.int .i64 v.init), .d (.int .i64 v.line)]] = some (.ret (.d (.bool (decide (x.name = v.name)))), [(0, .box [.d (.str v.name), .d (.int .i64 v.ty), .d (.int .i64 v.sec), .d (.bool v.arr), .d (.int .i64 v.lo), .d (.int .i64 v.hi), .d (.int .i64 v.init), .d (.int .i64 v.line)])]) := by
 rw [run103 (by simp)]
 simp [Tryz.f103, vrD, vrC]
theorem kpin1_r (s : Tx) (p : Pn) : callT ctx 260 [.d (pnD p), .ptr 0 0 0] [.box [.d (.str s)]] = some (.ret (.d (.bool (decide (p.name = s) && !decide (s = [])))), [(0, .box [.d (.str s)])]) := by
 rw [run260 (by simp)]
 by_cases h : p.name = s <;> simp [Tryz.f260, pnD, h]
 all_goals (cases s <;> rfl)
theorem kall1_r (t : Int) (x : Int) : callT ctx 293 [.d (.int .i64 x), .ptr 0 0 0] [.box [.d (.int .i64 t)]] = some (.ret (.d (.bool (!decide (x = t)))), [(0, .box [.d (.int .i64 t)])]) := by
 rw [run293 (by simp)]
 by_cases h : x = t <;> simp [Tryz.f293, h]
theorem kvar_loop (s : Tx) : ∀ (rest pre : List Vr), (pre ++ rest).length < 1000000 → ∀ k : Kt,
 denK ctx 151 (.loop (Code.at (codeOf Tryz.f151) [1, 0, 1, 0, 0])) ⟨19, gl0, [(0, true, .d (.list ((pre ++ rest).map vrD))), (1, true, .fn 256 [.ptr 0 0 0]), (7, true, .d (.int .i64 (pre ++ rest).length)), (8, true, .d (.int .i64 pre.length))], [⟨0, 0, .box [.d (.str s)]⟩]⟩ k =
  if idxP (fun v : Vr => decide (v.name = s)) rest pre.length < 0 then k (.exit 0) ⟨19, gl0, [(0, true, .d (.list ((pre ++ rest).map vrD))), (1, true, .fn 256 [.ptr 0 0 0]), (7, true, .d (.int .i64 (pre ++ rest).length)), (8, true, .d (.int .i64 (pre ++ rest).length)), (9, true, .d (.bool false))], [⟨0, 0, .box [.d (.str s)]⟩]⟩
  else k .ret ⟨19, gl0, [(4, true, .d (.int .i64 (idxP (fun v : Vr => decide (v.name = s)) rest pre.length)))], [⟨0, 0, .box [.d (.str s)]⟩]⟩
 | [], pre, hl, k => by
  rw [denK_loop]
  simp [Tryz.f151, idxP]
 | x :: rest, pre, hl, k => by
  obtain ⟨b, hb⟩ : ∃ b, b = (fun v : Vr => decide (v.name = s)) x := ⟨_, rfl⟩
  have hs : callT ctx 256 [.d (vrD x), .ptr 0 0 0] [.box [.d (.str s)]] = some (.ret (.d (.bool b)), [(0, .box [.d (.str s)])]) := by rw [hb]; exact kvar1_r s x
  have key : idxP (fun v : Vr => decide (v.name = s)) (x :: rest) pre.length = if b = true then (pre.length : Int) else idxP (fun v : Vr => decide (v.name = s)) rest (pre.length + 1) := by rw [hb]; rfl
  have ih := kvar_loop s rest (pre ++ [x]) (by simpa using hl) k
  have h1 : (pre.length : Int) < pre.length + (rest.length + 1) := by omega
  have h2 : IntKind.i64.wrap ((pre.length : Int) + 1) = pre.length + 1 := wrap_id (by unfold I64; simp at hl; omega)
  have h3 : ¬ ((pre.length : Int) < 0) := by omega
  simp [vrD, vrC] at hs
  rw [denK_loop, key]
  clear hb key
  cases b with
  | true => simp [Tryz.f151, h1, h2, h3, hs, vrD, vrC]
  | false =>
   simp [Tryz.f151, vrD, vrC] at ih ⊢
   simp [h1, h2, hs, ih, vrD, vrC]
theorem kvar_ix (s : Tx) (l : List Vr) (hl : l.length < 1000000) : callT ctx 151 [.d (.list (l.map vrD)), .fn 256 [.ptr 0 0 0]] [.box [.d (.str s)]] = some (.ret (.d (.int .i64 (idxP (fun v : Vr => decide (v.name = s)) l 0))), [(0, .box [.d (.str s)])]) := by
 have h := fun k => kvar_loop s l [] (by simpa using hl) k
 rw [run151 (by simp)]
 simp [Tryz.f151] at h ⊢
 simp [h]
 intro h
 rcases idxP_range (fun v : Vr => decide (v.name = s)) l 0 with h1 | h1
 · exact h1.symm
 · omega
theorem kdec_loop (v : Vr) : ∀ (rest pre : List Vr), (pre ++ rest).length < 1000000 → ∀ k : Kt,
 denK ctx 151 (.loop (Code.at (codeOf Tryz.f151) [1, 0, 1, 0, 0])) ⟨19, gl0, [(0, true, .d (.list ((pre ++ rest).map vrD))), (1, true, .fn 103 [.ptr 0 0 0]), (7, true, .d (.int .i64 (pre ++ rest).length)), (8, true, .d (.int .i64 pre.length))], [⟨0, 0, .box [.d (.str v.name), .d (.int .i64 v.ty), .d (.int .i64 v.sec), .d (.bool v.arr), .d (.int .i64 v.lo), .d (.int .i64 v.hi), .d (.int .i64 v.init), .d (.int .i64 v.line)]⟩]⟩ k =
  if idxP (fun x : Vr => decide (x.name = v.name)) rest pre.length < 0 then k (.exit 0) ⟨19, gl0, [(0, true, .d (.list ((pre ++ rest).map vrD))), (1, true, .fn 103 [.ptr 0 0 0]), (7, true, .d (.int .i64 (pre ++ rest).length)), (8, true, .d (.int .i64 (pre ++ rest).length)), (9, true, .d (.bool false))], [⟨0, 0, .box [.d (.str v.name), .d (.int .i64 v.ty), .d (.int .i64 v.sec), .d (.bool v.arr), .d (.int .i64 v.lo), .d (.int .i64 v.hi), .d (.int .i64 v.init), .d (.int .i64 v.line)]⟩]⟩
  else k .ret ⟨19, gl0, [(4, true, .d (.int .i64 (idxP (fun x : Vr => decide (x.name = v.name)) rest pre.length)))], [⟨0, 0, .box [.d (.str v.name), .d (.int .i64 v.ty), .d (.int .i64 v.sec), .d (.bool v.arr), .d (.int .i64 v.lo), .d (.int .i64 v.hi), .d (.int .i64 v.init), .d (.int .i64 v.line)]⟩]⟩
 | [], pre, hl, k => by
  rw [denK_loop]
  simp [Tryz.f151, idxP]
 | x :: rest, pre, hl, k => by
  obtain ⟨b, hb⟩ : ∃ b, b = (fun x : Vr => decide (x.name = v.name)) x := ⟨_, rfl⟩
  have hs : callT ctx 103 [.d (vrD x), .ptr 0 0 0] [.box [.d (.str v.name), .d (.int .i64 v.ty), .d (.int .i64 v.sec), .d (.bool v.arr), .d (.int .i64 v.lo), .d (.int .i64 v.hi), .d (.int .i64 v.init), .d (.int .i64 v.line)]] = some (.ret (.d (.bool b)), [(0, .box [.d (.str v.name), .d (.int .i64 v.ty), .d (.int .i64 v.sec), .d (.bool v.arr), .d (.int .i64 v.lo), .d (.int .i64 v.hi), .d (.int .i64 v.init), .d (.int .i64 v.line)])]) := by rw [hb]; exact kdec1_r v x
  have key : idxP (fun x : Vr => decide (x.name = v.name)) (x :: rest) pre.length = if b = true then (pre.length : Int) else idxP (fun x : Vr => decide (x.name = v.name)) rest (pre.length + 1) := by rw [hb]; rfl
  have ih := kdec_loop v rest (pre ++ [x]) (by simpa using hl) k
  have h1 : (pre.length : Int) < pre.length + (rest.length + 1) := by omega
  have h2 : IntKind.i64.wrap ((pre.length : Int) + 1) = pre.length + 1 := wrap_id (by unfold I64; simp at hl; omega)
  have h3 : ¬ ((pre.length : Int) < 0) := by omega
  simp [vrD, vrC] at hs
  rw [denK_loop, key]
  clear hb key
  cases b with
  | true => simp [Tryz.f151, h1, h2, h3, hs, vrD, vrC]
  | false =>
   simp [Tryz.f151, vrD, vrC] at ih ⊢
   simp [h1, h2, hs, ih, vrD, vrC]
theorem kdec_ix (v : Vr) (l : List Vr) (hl : l.length < 1000000) : callT ctx 151 [.d (.list (l.map vrD)), .fn 103 [.ptr 0 0 0]] [.box [.d (.str v.name), .d (.int .i64 v.ty), .d (.int .i64 v.sec), .d (.bool v.arr), .d (.int .i64 v.lo), .d (.int .i64 v.hi), .d (.int .i64 v.init), .d (.int .i64 v.line)]] = some (.ret (.d (.int .i64 (idxP (fun x : Vr => decide (x.name = v.name)) l 0))), [(0, .box [.d (.str v.name), .d (.int .i64 v.ty), .d (.int .i64 v.sec), .d (.bool v.arr), .d (.int .i64 v.lo), .d (.int .i64 v.hi), .d (.int .i64 v.init), .d (.int .i64 v.line)])]) := by
 have h := fun k => kdec_loop v l [] (by simpa using hl) k
 rw [run151 (by simp)]
 simp [Tryz.f151] at h ⊢
 simp [h]
 intro h
 rcases idxP_range (fun x : Vr => decide (x.name = v.name)) l 0 with h1 | h1
 · exact h1.symm
 · omega
theorem kdec_ct (v : Vr) (l : List Vr) (hl : l.length < 1000000) : callT ctx 102 [.d (.list (l.map vrD)), .fn 103 [.ptr 0 0 0]] [.box [.d (.str v.name), .d (.int .i64 v.ty), .d (.int .i64 v.sec), .d (.bool v.arr), .d (.int .i64 v.lo), .d (.int .i64 v.hi), .d (.int .i64 v.init), .d (.int .i64 v.line)]] = some (.ret (.d (.bool (l.any (fun x : Vr => decide (x.name = v.name))))), [(0, .box [.d (.str v.name), .d (.int .i64 v.ty), .d (.int .i64 v.sec), .d (.bool v.arr), .d (.int .i64 v.lo), .d (.int .i64 v.hi), .d (.int .i64 v.init), .d (.int .i64 v.line)])]) := by
 have h := kdec_ix v l hl
 rw [run102 (by simp)]
 simp [Tryz.f102, h, idxP_any]
theorem kpin_loop (s : Tx) : ∀ (rest pre : List Pn), (pre ++ rest).length < 1000000 → ∀ k : Kt,
 denK ctx 243 (.loop (Code.at (codeOf Tryz.f243) [1, 0, 1, 0, 0])) ⟨19, gl0, [(0, true, .d (.list ((pre ++ rest).map pnD))), (1, true, .fn 260 [.ptr 0 0 0]), (7, true, .d (.int .i64 (pre ++ rest).length)), (8, true, .d (.int .i64 pre.length))], [⟨0, 0, .box [.d (.str s)]⟩]⟩ k =
  if idxP (fun p : Pn => decide (p.name = s) && !decide (s = [])) rest pre.length < 0 then k (.exit 0) ⟨19, gl0, [(0, true, .d (.list ((pre ++ rest).map pnD))), (1, true, .fn 260 [.ptr 0 0 0]), (7, true, .d (.int .i64 (pre ++ rest).length)), (8, true, .d (.int .i64 (pre ++ rest).length)), (9, true, .d (.bool false))], [⟨0, 0, .box [.d (.str s)]⟩]⟩
  else k .ret ⟨19, gl0, [(4, true, .d (.int .i64 (idxP (fun p : Pn => decide (p.name = s) && !decide (s = [])) rest pre.length)))], [⟨0, 0, .box [.d (.str s)]⟩]⟩
 | [], pre, hl, k => by
  rw [denK_loop]
  simp [Tryz.f243, idxP]
 | x :: rest, pre, hl, k => by
  obtain ⟨b, hb⟩ : ∃ b, b = (fun p : Pn => decide (p.name = s) && !decide (s = [])) x := ⟨_, rfl⟩
  have hs : callT ctx 260 [.d (pnD x), .ptr 0 0 0] [.box [.d (.str s)]] = some (.ret (.d (.bool b)), [(0, .box [.d (.str s)])]) := by rw [hb]; exact kpin1_r s x
  have key : idxP (fun p : Pn => decide (p.name = s) && !decide (s = [])) (x :: rest) pre.length = if b = true then (pre.length : Int) else idxP (fun p : Pn => decide (p.name = s) && !decide (s = [])) rest (pre.length + 1) := by rw [hb]; rfl
  have ih := kpin_loop s rest (pre ++ [x]) (by simpa using hl) k
  have h1 : (pre.length : Int) < pre.length + (rest.length + 1) := by omega
  have h2 : IntKind.i64.wrap ((pre.length : Int) + 1) = pre.length + 1 := wrap_id (by unfold I64; simp at hl; omega)
  have h3 : ¬ ((pre.length : Int) < 0) := by omega
  simp [pnD] at hs
  rw [denK_loop, key]
  clear hb key
  cases b with
  | true => simp [Tryz.f243, h1, h2, h3, hs, pnD]
  | false =>
   simp [Tryz.f243, pnD] at ih ⊢
   simp [h1, h2, hs, ih, pnD]
theorem kpin_ix (s : Tx) (l : List Pn) (hl : l.length < 1000000) : callT ctx 243 [.d (.list (l.map pnD)), .fn 260 [.ptr 0 0 0]] [.box [.d (.str s)]] = some (.ret (.d (.int .i64 (idxP (fun p : Pn => decide (p.name = s) && !decide (s = [])) l 0))), [(0, .box [.d (.str s)])]) := by
 have h := fun k => kpin_loop s l [] (by simpa using hl) k
 rw [run243 (by simp)]
 simp [Tryz.f243] at h ⊢
 simp [h]
 intro h
 rcases idxP_range (fun p : Pn => decide (p.name = s) && !decide (s = [])) l 0 with h1 | h1
 · exact h1.symm
 · omega
theorem kall_loop (t : Int) : ∀ (rest pre : List Int), (pre ++ rest).length < 1000000 → ∀ k : Kt,
 denK ctx 309 (.loop (Code.at (codeOf Tryz.f309) [1, 0, 1, 0, 0])) ⟨19, gl0, [(0, true, .d (.list ((pre ++ rest).map (D.int .i64)))), (1, true, .fn 293 [.ptr 0 0 0]), (7, true, .d (.int .i64 (pre ++ rest).length)), (8, true, .d (.int .i64 pre.length))], [⟨0, 0, .box [.d (.int .i64 t)]⟩]⟩ k =
  if idxP (fun x : Int => !decide (x = t)) rest pre.length < 0 then k (.exit 0) ⟨19, gl0, [(0, true, .d (.list ((pre ++ rest).map (D.int .i64)))), (1, true, .fn 293 [.ptr 0 0 0]), (7, true, .d (.int .i64 (pre ++ rest).length)), (8, true, .d (.int .i64 (pre ++ rest).length)), (9, true, .d (.bool false))], [⟨0, 0, .box [.d (.int .i64 t)]⟩]⟩
  else k .ret ⟨19, gl0, [(4, true, .d (.int .i64 (idxP (fun x : Int => !decide (x = t)) rest pre.length)))], [⟨0, 0, .box [.d (.int .i64 t)]⟩]⟩
 | [], pre, hl, k => by
  rw [denK_loop]
  simp [Tryz.f309, idxP]
 | x :: rest, pre, hl, k => by
  obtain ⟨b, hb⟩ : ∃ b, b = (fun x : Int => !decide (x = t)) x := ⟨_, rfl⟩
  have hs : callT ctx 293 [.d (D.int .i64 x), .ptr 0 0 0] [.box [.d (.int .i64 t)]] = some (.ret (.d (.bool b)), [(0, .box [.d (.int .i64 t)])]) := by rw [hb]; exact kall1_r t x
  have key : idxP (fun x : Int => !decide (x = t)) (x :: rest) pre.length = if b = true then (pre.length : Int) else idxP (fun x : Int => !decide (x = t)) rest (pre.length + 1) := by rw [hb]; rfl
  have ih := kall_loop t rest (pre ++ [x]) (by simpa using hl) k
  have h1 : (pre.length : Int) < pre.length + (rest.length + 1) := by omega
  have h2 : IntKind.i64.wrap ((pre.length : Int) + 1) = pre.length + 1 := wrap_id (by unfold I64; simp at hl; omega)
  have h3 : ¬ ((pre.length : Int) < 0) := by omega
  try simp at hs
  rw [denK_loop, key]
  clear hb key
  cases b with
  | true => simp [Tryz.f309, h1, h2, h3, hs]
  | false =>
   simp [Tryz.f309] at ih ⊢
   simp [h1, h2, hs, ih]
theorem kall_ix (t : Int) (l : List Int) (hl : l.length < 1000000) : callT ctx 309 [.d (.list (l.map (D.int .i64))), .fn 293 [.ptr 0 0 0]] [.box [.d (.int .i64 t)]] = some (.ret (.d (.int .i64 (idxP (fun x : Int => !decide (x = t)) l 0))), [(0, .box [.d (.int .i64 t)])]) := by
 have h := fun k => kall_loop t l [] (by simpa using hl) k
 rw [run309 (by simp)]
 simp [Tryz.f309] at h ⊢
 simp [h]
 intro h
 rcases idxP_range (fun x : Int => !decide (x = t)) l 0 with h1 | h1
 · exact h1.symm
 · omega
theorem kall_ct (t : Int) (l : List Int) (hl : l.length < 1000000) : callT ctx 292 [.d (.list (l.map (D.int .i64))), .fn 293 [.ptr 0 0 0]] [.box [.d (.int .i64 t)]] = some (.ret (.d (.bool (l.any (fun x : Int => !decide (x = t))))), [(0, .box [.d (.int .i64 t)])]) := by
 have h := kall_ix t l hl
 rw [run292 (by simp)]
 simp [Tryz.f292, h, idxP_any]
theorem kalls_r (l : List Int) (t : Int) (hl : l.length < 1000000) : callT ctx 259 [.d (.list (l.map (D.int .i64))), .d (.int .i64 t)] [] = some (.ret (.d (.bool (l.all fun x => decide (x = t)))), []) := by
 have h := kall_ct t l hl
 have e : (l.any fun x => !decide (x = t)) = !(l.all fun x => decide (x = t)) := by rw [List.all_eq_not_any_not]; simp
 rw [e] at h
 rw [run259 (by simp)]
 simp [Tryz.f259, h]
theorem kblock_r (v : Vr) : callT ctx 220 [.d (vrD v)] [] = some (.ret (.d (.bool (decide (2 < v.ty)))), []) := by
 rw [run220 (by simp)]
 simp [Tryz.f220, vrD, vrC]
theorem sp10 : callT ctx 73 [.d (.int .i64 10)] [] = some (.ret (.d (.list ((pinsF 10).map pnD))), []) := callT_of 120 (by kernel_rfl)
theorem sp11 : callT ctx 73 [.d (.int .i64 11)] [] = some (.ret (.d (.list ((pinsF 11).map pnD))), []) := callT_of 120 (by kernel_rfl)
theorem sp12 : callT ctx 73 [.d (.int .i64 12)] [] = some (.ret (.d (.list ((pinsF 12).map pnD))), []) := callT_of 120 (by kernel_rfl)
theorem sp13 : callT ctx 73 [.d (.int .i64 13)] [] = some (.ret (.d (.list ((pinsF 13).map pnD))), []) := callT_of 120 (by kernel_rfl)
theorem sp14 : callT ctx 73 [.d (.int .i64 14)] [] = some (.ret (.d (.list ((pinsF 14).map pnD))), []) := callT_of 120 (by kernel_rfl)
theorem sp15 : callT ctx 73 [.d (.int .i64 15)] [] = some (.ret (.d (.list ((pinsF 15).map pnD))), []) := callT_of 120 (by kernel_rfl)
theorem sp16 : callT ctx 73 [.d (.int .i64 16)] [] = some (.ret (.d (.list ((pinsF 16).map pnD))), []) := callT_of 120 (by kernel_rfl)
theorem sp17 : callT ctx 73 [.d (.int .i64 17)] [] = some (.ret (.d (.list ((pinsF 17).map pnD))), []) := callT_of 120 (by kernel_rfl)
theorem sp18 : callT ctx 73 [.d (.int .i64 18)] [] = some (.ret (.d (.list ((pinsF 18).map pnD))), []) := callT_of 120 (by kernel_rfl)
theorem sp20 : callT ctx 73 [.d (.int .i64 20)] [] = some (.ret (.d (.list ((pinsF 20).map pnD))), []) := callT_of 120 (by kernel_rfl)
theorem sp21 : callT ctx 73 [.d (.int .i64 21)] [] = some (.ret (.d (.list ((pinsF 21).map pnD))), []) := callT_of 120 (by kernel_rfl)
theorem sp22 : callT ctx 73 [.d (.int .i64 22)] [] = some (.ret (.d (.list ((pinsF 22).map pnD))), []) := callT_of 120 (by kernel_rfl)
theorem sp23 : callT ctx 73 [.d (.int .i64 23)] [] = some (.ret (.d (.list ((pinsF 23).map pnD))), []) := callT_of 120 (by kernel_rfl)
theorem sp24 : callT ctx 73 [.d (.int .i64 24)] [] = some (.ret (.d (.list ((pinsF 24).map pnD))), []) := callT_of 120 (by kernel_rfl)
theorem sp25 : callT ctx 73 [.d (.int .i64 25)] [] = some (.ret (.d (.list ((pinsF 25).map pnD))), []) := callT_of 120 (by kernel_rfl)
theorem sp26 : callT ctx 73 [.d (.int .i64 26)] [] = some (.ret (.d (.list ((pinsF 26).map pnD))), []) := callT_of 120 (by kernel_rfl)
theorem sp27 : callT ctx 73 [.d (.int .i64 27)] [] = some (.ret (.d (.list ((pinsF 27).map pnD))), []) := callT_of 120 (by kernel_rfl)
theorem sp28 : callT ctx 73 [.d (.int .i64 28)] [] = some (.ret (.d (.list ((pinsF 28).map pnD))), []) := callT_of 120 (by kernel_rfl)
theorem sp29 : callT ctx 73 [.d (.int .i64 29)] [] = some (.ret (.d (.list ((pinsF 29).map pnD))), []) := callT_of 120 (by kernel_rfl)
theorem sp30 : callT ctx 73 [.d (.int .i64 30)] [] = some (.ret (.d (.list ((pinsF 30).map pnD))), []) := callT_of 120 (by kernel_rfl)
theorem sp31 : callT ctx 73 [.d (.int .i64 31)] [] = some (.ret (.d (.list ((pinsF 31).map pnD))), []) := callT_of 120 (by kernel_rfl)
def kindsK : List Int := [10, 11, 12, 13, 14, 15, 16, 17, 18, 20, 21, 22, 23, 24, 25, 26, 27, 28, 29, 30, 31]
def sheetF : D → Option Int
 | .agg [.int .i64 k, .str _, .str _, .str _, .int .i64 _] => some k
 | _ => none
theorem sheetF_some {d : D} {k : Int} (h : sheetF d = some k) : ∃ a b c n, d = .agg [.int .i64 k, .str a, .str b, .str c, .int .i64 n] := by
 unfold sheetF at h
 split at h
 · rename_i k' a b c n
   cases h
   exact ⟨a, b, c, n, rfl⟩
 · cases h
def sheetsF : Option (Out × List (Nat × Cont)) → Option (List (Option Int))
 | some (.ret (.d (.list l)), []) => some (l.map sheetF)
 | _ => none
theorem shts_n : sheetsF (callN ctx 120 163 [] []) = some (kindsK.map some) := by kernel_rfl
theorem shts_run : ∃ l : List D, callT ctx 163 [] [] = some (.ret (.d (.list l)), []) ∧ l.map sheetF = kindsK.map some := by
 have h := shts_n
 generalize hr : callN ctx 120 163 [] [] = r at h
 unfold sheetsF at h
 split at h
 · rename_i l
   exact ⟨l, callT_of 120 hr, by simpa using h⟩
 · cases h
theorem sht1_run (d : D) (k b : Int) (hd : sheetF d = some k) : callT ctx 165 [.d d, .ptr 0 0 0] [.box [.d (.int .i64 b)]] = some (.ret (.d (.bool (decide (k = b)))), [(0, .box [.d (.int .i64 b)])]) := by
 obtain ⟨a, e, c, n, rfl⟩ := sheetF_some hd
 rw [run165 (by simp)]
 simp [Tryz.f165]
theorem shtIdx_loop (b : Int) : ∀ (rest pre : List D), (∀ d ∈ rest, ∃ k, sheetF d = some k ∧ k ≠ b) → (pre ++ rest).length < 1000 → ∀ k : Kt,
 denK ctx 164 (.loop (Code.at (codeOf Tryz.f164) [1, 0, 1, 0, 0])) ⟨19, gl0, [(0, true, .d (.list (pre ++ rest))), (1, true, .fn 165 [.ptr 0 0 0]), (7, true, .d (.int .i64 (pre ++ rest).length)), (8, true, .d (.int .i64 pre.length))], [⟨0, 0, .box [.d (.int .i64 b)]⟩]⟩ k =
  k (.exit 0) ⟨19, gl0, [(0, true, .d (.list (pre ++ rest))), (1, true, .fn 165 [.ptr 0 0 0]), (7, true, .d (.int .i64 (pre ++ rest).length)), (8, true, .d (.int .i64 (pre ++ rest).length)), (9, true, .d (.bool false))], [⟨0, 0, .box [.d (.int .i64 b)]⟩]⟩
 | [], pre, h, hl, k => by
  rw [denK_loop]
  simp [Tryz.f164]
 | d :: rest, pre, h, hl, k => by
  obtain ⟨kd, hk, hne⟩ := h d (by simp)
  have hs := sht1_run d kd b hk
  obtain ⟨a1, a2, a3, a4, rfl⟩ := sheetF_some hk
  have ih := shtIdx_loop b rest (pre ++ [.agg [.int .i64 kd, .str a1, .str a2, .str a3, .int .i64 a4]]) (fun d hd => h d (by simp [hd])) (by simpa using hl) k
  have h1 : (pre.length : Int) < pre.length + (rest.length + 1) := by omega
  have h2 : IntKind.i64.wrap ((pre.length : Int) + 1) = pre.length + 1 := wrap_id (by unfold I64; simp at hl; omega)
  simp [hne] at hs
  rw [denK_loop]
  simp [Tryz.f164] at ih ⊢
  simp [h1, h2, hs, ih]
theorem spins_none (b : Int) (hb : b ∉ kindsK) : callT ctx 73 [.d (.int .i64 b)] [] = some (.ret (.d (.list [])), []) := by
 obtain ⟨l, hl, hm⟩ := shts_run
 have hlen : l.length = 21 := by have := congrArg List.length hm; simpa [kindsK] using this
 have hall : ∀ d ∈ l, ∃ k, sheetF d = some k ∧ k ≠ b := by
  intro d hd
  have h1 : sheetF d ∈ l.map sheetF := List.mem_map_of_mem hd
  rw [hm] at h1
  obtain ⟨k, hk, he⟩ := List.mem_map.1 h1
  exact ⟨k, he.symm, fun h => hb (h ▸ hk)⟩
 have hloop := shtIdx_loop b l [] hall (by simp; omega)
 have hidx : callT ctx 164 [.d (.list l), .fn 165 [.ptr 0 0 0]] [.box [.d (.int .i64 b)]] = some (.ret (.d (.int .i64 (-1))), [(0, .box [.d (.int .i64 b)])]) := by
  rw [run164 (by simp)]
  simp [Tryz.f164] at hloop ⊢
  simp [hloop]
 have hof : callT ctx 112 [.d (.int .i64 b)] [] = some (.ret (.tup [.d (.agg [.int .i64 0, .str [], .str [], .str [], .int .i64 0]), .d (.bool false)]), []) := by
  rw [run112 (by simp)]
  simp [Tryz.f112, hl, hidx]
 rw [run73 (by simp)]
 simp [Tryz.f73, hof]
theorem pinsF_none {b : Int} (hb : b ∉ kindsK) : pinsF b = [] := by
 simp only [kindsK, List.mem_cons, List.not_mem_nil, or_false, not_or] at hb
 obtain ⟨h1, h2, h3, h4, h5, h6, h7, h8, h9, h10, h11, h12, h13, h14, h15, h16, h17, h18, h19, h20, h21⟩ := hb
 unfold pinsF pnT
 simp only [pinsT, if_neg (Ne.symm h1), if_neg (Ne.symm h2), if_neg (Ne.symm h3), if_neg (Ne.symm h4), if_neg (Ne.symm h5), if_neg (Ne.symm h6), if_neg (Ne.symm h7), if_neg (Ne.symm h8), if_neg (Ne.symm h9), if_neg (Ne.symm h10), if_neg (Ne.symm h11), if_neg (Ne.symm h12), if_neg (Ne.symm h13), if_neg (Ne.symm h14), if_neg (Ne.symm h15), if_neg (Ne.symm h16), if_neg (Ne.symm h17), if_neg (Ne.symm h18), if_neg (Ne.symm h19), if_neg (Ne.symm h20), if_neg (Ne.symm h21)]
theorem spins_r (b : Int) : callT ctx 73 [.d (.int .i64 b)] [] = some (.ret (.d (.list ((pinsF b).map pnD))), []) := by
 by_cases hb : b ∈ kindsK
 · simp only [kindsK, List.mem_cons, List.not_mem_nil, or_false] at hb
   rcases hb with rfl | rfl | rfl | rfl | rfl | rfl | rfl | rfl | rfl | rfl | rfl | rfl | rfl | rfl | rfl | rfl | rfl | rfl | rfl | rfl | rfl
   · exact sp10
   · exact sp11
   · exact sp12
   · exact sp13
   · exact sp14
   · exact sp15
   · exact sp16
   · exact sp17
   · exact sp18
   · exact sp20
   · exact sp21
   · exact sp22
   · exact sp23
   · exact sp24
   · exact sp25
   · exact sp26
   · exact sp27
   · exact sp28
   · exact sp29
   · exact sp30
   · exact sp31
 · rw [pinsF_none hb]
   exact spins_none b hb
theorem pinsF_len (b : Int) : (pinsF b).length ≤ 20 := by
 by_cases hb : b ∈ kindsK
 · simp only [kindsK, List.mem_cons, List.not_mem_nil, or_false] at hb
   rcases hb with rfl | rfl | rfl | rfl | rfl | rfl | rfl | rfl | rfl | rfl | rfl | rfl | rfl | rfl | rfl | rfl | rfl | rfl | rfl | rfl | rfl <;> decide
 · rw [pinsF_none hb]; decide
def vrZ : Vr := ⟨[], 0, 0, false, 0, 0, 0, 0⟩
def fV (vs : List Vr) (s : Tx) : Vr := (findV vs s).getD vrZ
def pnZ : Pn := ⟨[], 0, false⟩
def fP (k : Int) (s : Tx) : Pn := (pinF k s).getD pnZ
def kB2 (vs : List Vr) (n : Int) : List (Nat × Cont) := [(0, .box [.vec 1 0 0 vs.length, .d (.int .i64 n)]), (0, .vec 8 (vs.map vrD))]
theorem kvariable_r {vs : List Vr} {n : Int} (hl : vs.length < 1000000) (s : Tx) (line : Int) : callT ctx 217 [.ptr 0 0 0, .d (.str s), .d (.int .i64 line)] [.box [.vec 1 0 0 vs.length, .d (.int .i64 n)], .vec 8 (vs.map vrD)] =
 if (findV vs s).isSome = true then some (.ret (.d (vrD (fV vs s))), kB2 vs n) else some (.panic 174 (ftD 9 line), kB2 vs n) := by
 have hi := kvar_ix s vs hl
 have hg := idxP_get (fun v : Vr => decide (v.name = s)) vs []
 have ha := idxP_any0 (fun v : Vr => decide (v.name = s)) vs 0
 rw [any_V] at ha
 simp only [List.length_nil, List.nil_append, find_V] at hg
 generalize idxP (fun v : Vr => decide (v.name = s)) vs 0 = j at *
 rw [run217 (by simp)]
 by_cases h0 : 0 ≤ j
 · obtain ⟨v, h1, h2, h3⟩ := hg h0
   have hv : vs[j.toNat] = v := by rw [List.getElem?_eq_getElem h3] at h1; simpa using h1
   simp [Tryz.f217, hi, need_r, h0, h3, hv, h2, fV, kB2, vrD, vrC]
 · have hn : (findV vs s).isSome = false := by simpa using fun h => h0 (ha.2 h)
   simp [Tryz.f217, hi, need_r, h0, hn, kB2]
theorem kpin_r (v : Vr) (s : Tx) : callT ctx 221 [.d (vrD v), .d (.str s)] [] = some (.ret (.tup [.d (pnD (fP v.ty s)), .d (.bool (pinF v.ty s).isSome)]), []) := by
 have hs := spins_r v.ty
 have hlen := pinsF_len v.ty
 have hi := kpin_ix s (pinsF v.ty) (by omega)
 have hg := idxP_get (fun p : Pn => decide (p.name = s) && !decide (s = [])) (pinsF v.ty) []
 have ha := idxP_any0 (fun p : Pn => decide (p.name = s) && !decide (s = [])) (pinsF v.ty) 0
 simp only [List.length_nil, List.nil_append, find_P] at hg
 have he : pinF v.ty s = pinL (pinsF v.ty) s := rfl
 have hr := idxP_range (fun p : Pn => decide (p.name = s) && !decide (s = [])) (pinsF v.ty) 0
 have hn : (pinL (pinsF v.ty) s).isSome = (pinsF v.ty).any (fun p : Pn => decide (p.name = s) && !decide (s = [])) := by
  rw [← find_P, Bool.eq_iff_iff, List.find?_isSome, List.any_eq_true]
 rw [he]
 unfold fP
 rw [he]
 generalize pinsF v.ty = l at *
 generalize idxP (fun p : Pn => decide (p.name = s) && !decide (s = [])) l 0 = j at *
 rw [run221 (by simp)]
 by_cases h0 : 0 ≤ j
 · obtain ⟨p, h1, h2, h3⟩ := hg h0
   have hv : l[j.toNat] = p := by rw [List.getElem?_eq_getElem h3] at h1; simpa using h1
   have h4 : ¬ j < 0 := by omega
   simp [Tryz.f221, hi, hs, h0, h4, h3, hv, h2, pnD, vrD, vrC]
 · have hf : (pinL l s).isSome = false := by rw [hn]; simpa using fun h => h0 (ha.2 h)
   have hf' : pinL l s = none := by simpa using hf
   have h4 : j < 0 := by omega
   simp [Tryz.f221, hi, hs, h0, h4, hf', pnD, pnZ, vrD, vrC]
@[simp] def strD0 (t : Tx) : D := .str t
theorem fword_loop (s : Tx) (l : List Tx) (hl : l.length ≤ 1000) (k : Kt) (R1 R2 : Ans)
 (h1 : k .ret ⟨15, gl0, [(2, true, .d (.bool true))], []⟩ = R1)
 (h2 : ∀ Y : Env, k (.exit 0) ⟨15, gl0, Y, []⟩ = R2) : ∀ (rest : List Tx) (j : Nat), l.drop j = rest → j + rest.length = l.length →
 denK ctx 81 (.loop (Code.at (codeOf Tryz.f81) [1, 0, 1, 0, 0])) ⟨15, gl0, [(0, true, .d (.str s)), (5, true, .d (.list (l.map strD0))), (6, true, .d (.int .i64 l.length)), (7, true, .d (.int .i64 j))], []⟩ k = if s ∈ rest then R1 else R2
 | [], j, hd, hj => by
  have hj : j = l.length := by simpa using hj
  subst hj
  rw [denK_loop]
  simp [Tryz.f81, h2]
 | x :: rest, j, hd, hj => by
  have hlt : j < l.length := by simp at hj; omega
  have hx : l[j] = x := by
   have := congrArg (·[0]?) hd
   simp at this
   simpa [hlt] using this
  have ih := fword_loop s l hl k R1 R2 h1 h2 rest (j + 1) (by rw [← List.tail_drop, hd]; rfl) (by simp at hj; omega)
  have w1 : IntKind.i64.wrap ((j : Int) + 1) = (j : Int) + 1 := wrap_id (by unfold I64; omega)
  rw [denK_loop]
  by_cases hs : x = s
  · simp [Tryz.f81]
    simp [hlt, hx, hs, h1]
  · have hs' : ¬ s = x := fun h => hs h.symm
    simp [Tryz.f81] at ih ⊢
    simp [hlt, hx, hs, hs', w1, ih]
theorem fword_run (s : Tx) : callT ctx 81 [.d (.str s)] [] = some (.ret (.d (.bool (wordB s))), []) := by
 have hlo := fun k R1 R2 h1 h2 => fword_loop s wordsL (by decide) k R1 R2 h1 h2 wordsL 0 rfl (by decide)
 have e : List.map strD0 wordsL = wordsL.map strD0 := rfl
 have hlen : wordsL.length = 36 := rfl
 have r36 : List.range' 0 36 = [0, 1, 2, 3, 4, 5, 6, 7, 8, 9, 10, 11, 12, 13, 14, 15, 16, 17, 18, 19, 20, 21, 22, 23, 24, 25, 26, 27, 28, 29, 30, 31, 32, 33, 34, 35] := rfl
 rw [run81 (by simp)]
 unfold wordB
 generalize hB : decide (s ∈ wordsL) = B
 simp [Tryz.f81, wordsL] at hlo
 simp [Tryz.f81, r36]
 rw [hlo _ (some (.ret (.d (.bool true)), [])) (some (.ret (.d (.bool false)), [])) (by simp) (by simp)]
 subst hB
 by_cases hm : s ∈ wordsL
 · rw [decide_eq_true hm]
   simp only [wordsL, List.mem_cons, List.not_mem_nil, or_false] at hm
   rw [if_pos hm]
 · rw [decide_eq_false hm]
   simp only [wordsL, List.mem_cons, List.not_mem_nil, or_false] at hm
   rw [if_neg hm]
theorem fname_loop (s : Tx) (hl : s.length ≤ 16) (k : Kt) (R1 R2 : Ans)
 (h1 : k .ret ⟨59, gl0, [(2, true, .d (.bool false))], []⟩ = R1)
 (h2 : ∀ Y : Env, k (.exit 0) ⟨59, gl0, Y, []⟩ = R2) : ∀ (rest : Tx) (j : Nat), s.drop j = rest → j + rest.length = s.length →
 denK ctx 42 (.loop (Code.at (codeOf Tryz.f42) [1, 1, 0, 1, 0, 0])) ⟨59, gl0, [(0, true, .d (.str s)), (3, true, .d (.int .i64 j))], []⟩ k = if nameL rest j = true then R2 else R1
 | [], j, hd, hj => by
  have hj : j = s.length := by simpa using hj
  subst hj
  rw [denK_loop]
  simp [Tryz.f42, h2, nameL]
 | c :: rest, j, hd, hj => by
  have hlt : j < s.length := by simp at hj; omega
  have hx : strAt s j = c := by
   have := congrArg (·[0]?) hd
   simp at this
   simp [strAt, this]
  have ih := fname_loop s hl k R1 R2 h1 h2 rest (j + 1) (by rw [← List.tail_drop, hd]; rfl) (by simp at hj; omega)
  have w1 : IntKind.i64.wrap ((j : Int) + 1) = (j : Int) + 1 := wrap_id (by unfold I64; omega)
  have key : nameL (c :: rest) j = ((letB c || (!decide (j = 0) && (decide (c = 95) || digB c))) && nameL rest (j + 1)) := rfl
  have hc95 : decide (c = 95) = decide (c.toNat = 95) := by
   rw [decide_eq_decide]
   exact ⟨fun h => by rw [h]; rfl, fun h => UInt8.toNat_inj.1 (by rw [h]; rfl)⟩
  rw [key, hc95]
  generalize nameL rest (j + 1) = B at *
  rw [denK_loop]
  simp [Tryz.f42] at ih ⊢
  simp [hlt, hx, w1, h1, ih]
  unfold letB digB
  grind
theorem fname_r (s : Tx) : callT ctx 42 [.d (.str s)] [] = some (.ret (.d (.bool (nameF s))), []) := by
 have hw := fword_run s
 unfold nameF
 rw [run42 (by simp)]
 by_cases h1 : s.length < 1
 · have h2 : ¬ 1 ≤ s.length := by omega
   have h3 : (s.length : Int) < 1 := by omega
   simp [Tryz.f42, h2, h3]
 · by_cases h16 : 16 < s.length
   · have h2 : 1 ≤ s.length := by omega
     have h3 : ¬ (s.length : Int) < 1 := by omega
     have h4 : ¬ s.length ≤ 16 := by omega
     have h5 : (16 : Int) < s.length := by omega
     simp [Tryz.f42, h2, h3, h4, h16, h5]
   · have h2 : 1 ≤ s.length := by omega
     have h3 : ¬ (s.length : Int) < 1 := by omega
     have h4 : s.length ≤ 16 := by omega
     have h5 : ¬ (16 : Int) < s.length := by omega
     cases hb : wordB s with
     | true =>
      rw [hb] at hw
      simp [Tryz.f42, h2, h3, h4, h16, h5, hw]
     | false =>
      rw [hb] at hw
      have hlo := fun k R1 R2 h1 h2 => fname_loop s h4 k R1 R2 h1 h2 s 0 rfl (by simp)
      simp [Tryz.f42] at hlo
      simp [Tryz.f42, h2, h3, h4, h16, h5, hw]
      rw [hlo _ (some (.ret (.d (.bool false)), [])) (some (.ret (.d (.bool true)), [])) (by simp) (by simp)]
      cases nameL s 0 <;> simp
theorem fnone_r {x : Ex} (h : (exa x).length < 100000000 ∧ (exf x).length < 100000000 ∧ (exs x).length < 100000000) : callT ctx 85 [.d (.agg [.int .i64 (exo x), .int .i64 (exn x), .str (exa x), .str (exf x), .list ((exs x).map exD), .int .i64 (exl x)])] [] = some (.ret (.d (.bool (noneX x))), []) := by
 have w1 : IntKind.i64.wrap ((exa x).length + (exf x).length : Int) = (exa x).length + (exf x).length := wrap_id (by unfold I64; omega)
 have w2 : IntKind.i64.wrap ((exa x).length + (exf x).length + (exs x).length : Int) = (exa x).length + (exf x).length + (exs x).length := wrap_id (by unfold I64; omega)
 unfold noneX
 generalize hB : decide ((exa x).length + (exf x).length + (exs x).length = 0) = B
 rw [run85 (by simp)]
 by_cases h0 : exo x = 0
 · by_cases h1 : exn x = 0
   · simp [Tryz.f85, h0, h1]
     rw [w1, w2, ← hB, decide_eq_decide]
     omega
   · simp [Tryz.f85, h0, h1]
 · simp [Tryz.f85, h0]
theorem fshape_r (op : Int) : callT ctx 83 [.d (.int .i64 op)] [] = some (.ret (.tup [.d (.bool (decide (op = 4 ∨ op = 9))), .d (.bool (decide (op = 1))), .d (.bool (decide (op = 1 ∨ op = 3 ∨ op = 5 ∨ op = 6)))]), []) := by
 rw [run83 (by simp)]
 simp [Tryz.f83]
 grind
theorem fitX_A (x : Ex) : fitX x = (!decide ((exo x = 1 ∧ exn x < 0) ∨ (exo x = 2 ∧ (exn x < 0 ∨ 1 < exn x)) ∨ (2 < exo x ∧ exn x ≠ 0) ∨ exo x < 1 ∨ 21 < exo x) &&
 (decide ((exs x).length = subsN (exo x)) && ((if exo x = 3 ∨ exo x = 4 ∨ exo x = 5 then nameF (exa x) else decide (exa x = [])) && ((if exo x = 5 then nameF (exf x) else decide (exf x = [])) && fitXs (exs x))))) := by
 cases x
 rw [fitX]
 rfl
def KF (l : List Ex) : Prop := callT ctx 84 [.d (.list (l.map exD))] [] = some (.ret (.d (.bool (fitXs l))), [])
theorem fstep0 {l : List Ex} (hln : l.length < 100000000) {i : Nat} {x : Ex} (hb1 : i < l.length) (hb2 : l[i] = x) (hk : KF (exs x)) (hsl : (exs x).length < 100000000) (k : Kt) (R1 R2 : Ans) (B : Bool)
 (h1 : ∀ v X, k .ret ⟨126, gl0, [(2, true, .d (.bool false))], [⟨300, v, X⟩]⟩ = R1)
 (ih : ∀ v X, denK ctx 84 (.loop (Code.at (codeOf Tryz.f84) [1, 0, 1, 0, 0])) ⟨126, gl0, [(0, true, .d (.list (l.map exD))), (3, true, .d (.int .i64 (i + 1)))], [⟨300, v, X⟩]⟩ k = if B = true then R2 else R1) (h : exo x < 1) (v : Nat) (X : Cont) :
 denK ctx 84 (.loop (Code.at (codeOf Tryz.f84) [1, 0, 1, 0, 0])) ⟨126, gl0, [(0, true, .d (.list (l.map exD))), (3, true, .d (.int .i64 i))], [⟨300, v, X⟩]⟩ k = if (fitX x && B) = true then R2 else R1 := by
 have w1 : IntKind.i64.wrap ((i : Int) + 1) = i + 1 := wrap_id (by unfold I64; omega)
 have hn := fname_r (exa x)
 have hf := fname_r (exf x)
 unfold KF at hk
 rw [fitX_A]
 generalize fitXs (exs x) = S at *
 generalize nameF (exa x) = N at *
 generalize nameF (exf x) = F at *
 have c1 : ¬ exo x = 1 := by omega
 have c2 : ¬ exo x = 2 := by omega
 have c3 : ¬ exo x = 3 := by omega
 have c4 : ¬ exo x = 4 := by omega
 have c5 : ¬ exo x = 5 := by omega
 have c6 : ¬ exo x = 6 := by omega
 have c7 : ¬ exo x = 7 := by omega
 have d1 : ¬ 2 < exo x := by omega
 rw [denK_loop]
 simp [Tryz.f84] at ih ⊢
 simp [hb1, hb2, w1, exD_A, h, hk, hn, hf, ih, h1, c1, c2, d1]
 intros; omega
theorem fstep1 {l : List Ex} (hln : l.length < 100000000) {i : Nat} {x : Ex} (hb1 : i < l.length) (hb2 : l[i] = x) (hk : KF (exs x)) (hsl : (exs x).length < 100000000) (k : Kt) (R1 R2 : Ans) (B : Bool)
 (h1 : ∀ v X, k .ret ⟨126, gl0, [(2, true, .d (.bool false))], [⟨300, v, X⟩]⟩ = R1)
 (ih : ∀ v X, denK ctx 84 (.loop (Code.at (codeOf Tryz.f84) [1, 0, 1, 0, 0])) ⟨126, gl0, [(0, true, .d (.list (l.map exD))), (3, true, .d (.int .i64 (i + 1)))], [⟨300, v, X⟩]⟩ k = if B = true then R2 else R1) (h : exo x = 1) (v : Nat) (X : Cont) :
 denK ctx 84 (.loop (Code.at (codeOf Tryz.f84) [1, 0, 1, 0, 0])) ⟨126, gl0, [(0, true, .d (.list (l.map exD))), (3, true, .d (.int .i64 i))], [⟨300, v, X⟩]⟩ k = if (fitX x && B) = true then R2 else R1 := by
 have w1 : IntKind.i64.wrap ((i : Int) + 1) = i + 1 := wrap_id (by unfold I64; omega)
 have hn := fname_r (exa x)
 have hf := fname_r (exf x)
 unfold KF at hk
 rw [fitX_A]
 generalize fitXs (exs x) = S at *
 generalize nameF (exa x) = N at *
 generalize nameF (exf x) = F at *
 rw [denK_loop]
 simp [Tryz.f84] at ih ⊢
 have e0 : subsN 1 = 0 := rfl
 by_cases hn0 : exn x < 0
 · simp [hb1, hb2, w1, exD_A, h, hk, hn, hf, ih, h1, hn0]
   intros; omega
 · by_cases hn1 : 1 < exn x
   · simp [hb1, hb2, w1, exD_A, h, hk, hn, hf, ih, h1, hn0, hn1, e0]
     grind
   · simp [hb1, hb2, w1, exD_A, h, hk, hn, hf, ih, h1, hn0, hn1, e0]
     grind
theorem fstep2 {l : List Ex} (hln : l.length < 100000000) {i : Nat} {x : Ex} (hb1 : i < l.length) (hb2 : l[i] = x) (hk : KF (exs x)) (hsl : (exs x).length < 100000000) (k : Kt) (R1 R2 : Ans) (B : Bool)
 (h1 : ∀ v X, k .ret ⟨126, gl0, [(2, true, .d (.bool false))], [⟨300, v, X⟩]⟩ = R1)
 (ih : ∀ v X, denK ctx 84 (.loop (Code.at (codeOf Tryz.f84) [1, 0, 1, 0, 0])) ⟨126, gl0, [(0, true, .d (.list (l.map exD))), (3, true, .d (.int .i64 (i + 1)))], [⟨300, v, X⟩]⟩ k = if B = true then R2 else R1) (h : exo x = 2) (v : Nat) (X : Cont) :
 denK ctx 84 (.loop (Code.at (codeOf Tryz.f84) [1, 0, 1, 0, 0])) ⟨126, gl0, [(0, true, .d (.list (l.map exD))), (3, true, .d (.int .i64 i))], [⟨300, v, X⟩]⟩ k = if (fitX x && B) = true then R2 else R1 := by
 have w1 : IntKind.i64.wrap ((i : Int) + 1) = i + 1 := wrap_id (by unfold I64; omega)
 have hn := fname_r (exa x)
 have hf := fname_r (exf x)
 unfold KF at hk
 rw [fitX_A]
 generalize fitXs (exs x) = S at *
 generalize nameF (exa x) = N at *
 generalize nameF (exf x) = F at *
 rw [denK_loop]
 simp [Tryz.f84] at ih ⊢
 have e0 : subsN 2 = 0 := rfl
 by_cases hn0 : exn x < 0
 · simp [hb1, hb2, w1, exD_A, h, hk, hn, hf, ih, h1, hn0]
   intros; omega
 · by_cases hn1 : 1 < exn x
   · simp [hb1, hb2, w1, exD_A, h, hk, hn, hf, ih, h1, hn0, hn1, e0]
     intros; omega
   · simp [hb1, hb2, w1, exD_A, h, hk, hn, hf, ih, h1, hn0, hn1, e0]
     grind
theorem fstep3 {l : List Ex} (hln : l.length < 100000000) {i : Nat} {x : Ex} (hb1 : i < l.length) (hb2 : l[i] = x) (hk : KF (exs x)) (hsl : (exs x).length < 100000000) (k : Kt) (R1 R2 : Ans) (B : Bool)
 (h1 : ∀ v X, k .ret ⟨126, gl0, [(2, true, .d (.bool false))], [⟨300, v, X⟩]⟩ = R1)
 (ih : ∀ v X, denK ctx 84 (.loop (Code.at (codeOf Tryz.f84) [1, 0, 1, 0, 0])) ⟨126, gl0, [(0, true, .d (.list (l.map exD))), (3, true, .d (.int .i64 (i + 1)))], [⟨300, v, X⟩]⟩ k = if B = true then R2 else R1) (h : exo x = 3) (v : Nat) (X : Cont) :
 denK ctx 84 (.loop (Code.at (codeOf Tryz.f84) [1, 0, 1, 0, 0])) ⟨126, gl0, [(0, true, .d (.list (l.map exD))), (3, true, .d (.int .i64 i))], [⟨300, v, X⟩]⟩ k = if (fitX x && B) = true then R2 else R1 := by
 have w1 : IntKind.i64.wrap ((i : Int) + 1) = i + 1 := wrap_id (by unfold I64; omega)
 have hn := fname_r (exa x)
 have hf := fname_r (exf x)
 unfold KF at hk
 rw [fitX_A]
 generalize fitXs (exs x) = S at *
 generalize nameF (exa x) = N at *
 generalize nameF (exf x) = F at *
 rw [denK_loop]
 simp [Tryz.f84] at ih ⊢
 have e0 : subsN 3 = 0 := rfl
 by_cases hn0 : exn x = 0
 · simp [hb1, hb2, w1, exD_A, h, hk, hn, hf, ih, h1, hn0, e0]
   grind
 · simp [hb1, hb2, w1, exD_A, h, hk, hn, hf, ih, h1, hn0]
theorem fstep4 {l : List Ex} (hln : l.length < 100000000) {i : Nat} {x : Ex} (hb1 : i < l.length) (hb2 : l[i] = x) (hk : KF (exs x)) (hsl : (exs x).length < 100000000) (k : Kt) (R1 R2 : Ans) (B : Bool)
 (h1 : ∀ v X, k .ret ⟨126, gl0, [(2, true, .d (.bool false))], [⟨300, v, X⟩]⟩ = R1)
 (ih : ∀ v X, denK ctx 84 (.loop (Code.at (codeOf Tryz.f84) [1, 0, 1, 0, 0])) ⟨126, gl0, [(0, true, .d (.list (l.map exD))), (3, true, .d (.int .i64 (i + 1)))], [⟨300, v, X⟩]⟩ k = if B = true then R2 else R1) (h : exo x = 4) (v : Nat) (X : Cont) :
 denK ctx 84 (.loop (Code.at (codeOf Tryz.f84) [1, 0, 1, 0, 0])) ⟨126, gl0, [(0, true, .d (.list (l.map exD))), (3, true, .d (.int .i64 i))], [⟨300, v, X⟩]⟩ k = if (fitX x && B) = true then R2 else R1 := by
 have w1 : IntKind.i64.wrap ((i : Int) + 1) = i + 1 := wrap_id (by unfold I64; omega)
 have hn := fname_r (exa x)
 have hf := fname_r (exf x)
 unfold KF at hk
 rw [fitX_A]
 generalize fitXs (exs x) = S at *
 generalize nameF (exa x) = N at *
 generalize nameF (exf x) = F at *
 rw [denK_loop]
 simp [Tryz.f84] at ih ⊢
 have e0 : subsN 4 = 1 := rfl
 by_cases hn0 : exn x = 0
 · simp [hb1, hb2, w1, exD_A, h, hk, hn, hf, ih, h1, hn0, e0]
   grind
 · simp [hb1, hb2, w1, exD_A, h, hk, hn, hf, ih, h1, hn0]
theorem fstep5 {l : List Ex} (hln : l.length < 100000000) {i : Nat} {x : Ex} (hb1 : i < l.length) (hb2 : l[i] = x) (hk : KF (exs x)) (hsl : (exs x).length < 100000000) (k : Kt) (R1 R2 : Ans) (B : Bool)
 (h1 : ∀ v X, k .ret ⟨126, gl0, [(2, true, .d (.bool false))], [⟨300, v, X⟩]⟩ = R1)
 (ih : ∀ v X, denK ctx 84 (.loop (Code.at (codeOf Tryz.f84) [1, 0, 1, 0, 0])) ⟨126, gl0, [(0, true, .d (.list (l.map exD))), (3, true, .d (.int .i64 (i + 1)))], [⟨300, v, X⟩]⟩ k = if B = true then R2 else R1) (h : exo x = 5) (v : Nat) (X : Cont) :
 denK ctx 84 (.loop (Code.at (codeOf Tryz.f84) [1, 0, 1, 0, 0])) ⟨126, gl0, [(0, true, .d (.list (l.map exD))), (3, true, .d (.int .i64 i))], [⟨300, v, X⟩]⟩ k = if (fitX x && B) = true then R2 else R1 := by
 have w1 : IntKind.i64.wrap ((i : Int) + 1) = i + 1 := wrap_id (by unfold I64; omega)
 have hn := fname_r (exa x)
 have hf := fname_r (exf x)
 unfold KF at hk
 rw [fitX_A]
 generalize fitXs (exs x) = S at *
 generalize nameF (exa x) = N at *
 generalize nameF (exf x) = F at *
 rw [denK_loop]
 simp [Tryz.f84] at ih ⊢
 have e0 : subsN 5 = 0 := rfl
 by_cases hn0 : exn x = 0
 · simp [hb1, hb2, w1, exD_A, h, hk, hn, hf, ih, h1, hn0, e0]
   grind
 · simp [hb1, hb2, w1, exD_A, h, hk, hn, hf, ih, h1, hn0]
theorem fstep6 {l : List Ex} (hln : l.length < 100000000) {i : Nat} {x : Ex} (hb1 : i < l.length) (hb2 : l[i] = x) (hk : KF (exs x)) (hsl : (exs x).length < 100000000) (k : Kt) (R1 R2 : Ans) (B : Bool)
 (h1 : ∀ v X, k .ret ⟨126, gl0, [(2, true, .d (.bool false))], [⟨300, v, X⟩]⟩ = R1)
 (ih : ∀ v X, denK ctx 84 (.loop (Code.at (codeOf Tryz.f84) [1, 0, 1, 0, 0])) ⟨126, gl0, [(0, true, .d (.list (l.map exD))), (3, true, .d (.int .i64 (i + 1)))], [⟨300, v, X⟩]⟩ k = if B = true then R2 else R1) (h : exo x = 6) (v : Nat) (X : Cont) :
 denK ctx 84 (.loop (Code.at (codeOf Tryz.f84) [1, 0, 1, 0, 0])) ⟨126, gl0, [(0, true, .d (.list (l.map exD))), (3, true, .d (.int .i64 i))], [⟨300, v, X⟩]⟩ k = if (fitX x && B) = true then R2 else R1 := by
 have w1 : IntKind.i64.wrap ((i : Int) + 1) = i + 1 := wrap_id (by unfold I64; omega)
 have hn := fname_r (exa x)
 have hf := fname_r (exf x)
 unfold KF at hk
 rw [fitX_A]
 generalize fitXs (exs x) = S at *
 generalize nameF (exa x) = N at *
 generalize nameF (exf x) = F at *
 rw [denK_loop]
 simp [Tryz.f84] at ih ⊢
 have e0 : subsN 6 = 1 := rfl
 by_cases hn0 : exn x = 0
 · simp [hb1, hb2, w1, exD_A, h, hk, hn, hf, ih, h1, hn0, e0]
   grind
 · simp [hb1, hb2, w1, exD_A, h, hk, hn, hf, ih, h1, hn0]
theorem fstep7 {l : List Ex} (hln : l.length < 100000000) {i : Nat} {x : Ex} (hb1 : i < l.length) (hb2 : l[i] = x) (hk : KF (exs x)) (hsl : (exs x).length < 100000000) (k : Kt) (R1 R2 : Ans) (B : Bool)
 (h1 : ∀ v X, k .ret ⟨126, gl0, [(2, true, .d (.bool false))], [⟨300, v, X⟩]⟩ = R1)
 (ih : ∀ v X, denK ctx 84 (.loop (Code.at (codeOf Tryz.f84) [1, 0, 1, 0, 0])) ⟨126, gl0, [(0, true, .d (.list (l.map exD))), (3, true, .d (.int .i64 (i + 1)))], [⟨300, v, X⟩]⟩ k = if B = true then R2 else R1) (h : exo x = 7) (v : Nat) (X : Cont) :
 denK ctx 84 (.loop (Code.at (codeOf Tryz.f84) [1, 0, 1, 0, 0])) ⟨126, gl0, [(0, true, .d (.list (l.map exD))), (3, true, .d (.int .i64 i))], [⟨300, v, X⟩]⟩ k = if (fitX x && B) = true then R2 else R1 := by
 have w1 : IntKind.i64.wrap ((i : Int) + 1) = i + 1 := wrap_id (by unfold I64; omega)
 have hn := fname_r (exa x)
 have hf := fname_r (exf x)
 unfold KF at hk
 rw [fitX_A]
 generalize fitXs (exs x) = S at *
 generalize nameF (exa x) = N at *
 generalize nameF (exf x) = F at *
 rw [denK_loop]
 simp [Tryz.f84] at ih ⊢
 have e0 : subsN 7 = 1 := rfl
 by_cases hn0 : exn x = 0
 · simp [hb1, hb2, w1, exD_A, h, hk, hn, hf, ih, h1, hn0, e0]
   grind
 · simp [hb1, hb2, w1, exD_A, h, hk, hn, hf, ih, h1, hn0]
theorem fstep8 {l : List Ex} (hln : l.length < 100000000) {i : Nat} {x : Ex} (hb1 : i < l.length) (hb2 : l[i] = x) (hk : KF (exs x)) (hsl : (exs x).length < 100000000) (k : Kt) (R1 R2 : Ans) (B : Bool)
 (h1 : ∀ v X, k .ret ⟨126, gl0, [(2, true, .d (.bool false))], [⟨300, v, X⟩]⟩ = R1)
 (ih : ∀ v X, denK ctx 84 (.loop (Code.at (codeOf Tryz.f84) [1, 0, 1, 0, 0])) ⟨126, gl0, [(0, true, .d (.list (l.map exD))), (3, true, .d (.int .i64 (i + 1)))], [⟨300, v, X⟩]⟩ k = if B = true then R2 else R1) (h : 7 < exo x) (v : Nat) (X : Cont) :
 denK ctx 84 (.loop (Code.at (codeOf Tryz.f84) [1, 0, 1, 0, 0])) ⟨126, gl0, [(0, true, .d (.list (l.map exD))), (3, true, .d (.int .i64 i))], [⟨300, v, X⟩]⟩ k = if (fitX x && B) = true then R2 else R1 := by
 have w1 : IntKind.i64.wrap ((i : Int) + 1) = i + 1 := wrap_id (by unfold I64; omega)
 have hn := fname_r (exa x)
 have hf := fname_r (exf x)
 unfold KF at hk
 rw [fitX_A]
 generalize fitXs (exs x) = S at *
 generalize nameF (exa x) = N at *
 generalize nameF (exf x) = F at *
 have c1 : ¬ exo x = 1 := by omega
 have c2 : ¬ exo x = 2 := by omega
 have c3 : ¬ exo x = 3 := by omega
 have c4 : ¬ exo x = 4 := by omega
 have c5 : ¬ exo x = 5 := by omega
 have c6 : ¬ exo x = 6 := by omega
 have c7 : ¬ exo x = 7 := by omega
 have d1 : 2 < exo x := by omega
 have d2 : ¬ exo x < 1 := by omega
 have e0 : subsN (exo x) = 2 := by unfold subsN; rw [if_neg (by omega), if_pos h]
 rw [denK_loop]
 simp [Tryz.f84] at ih ⊢
 by_cases hn0 : exn x = 0
 · by_cases h21 : 21 < exo x
   · simp [hb1, hb2, w1, exD_A, h, hk, hn, hf, ih, h1, hn0, h21, c1, c2, c3, c4, c5, c6, c7, d1, d2]
     intros; omega
   · simp [hb1, hb2, w1, exD_A, h, hk, hn, hf, ih, h1, hn0, h21, e0, c1, c2, c3, c4, c5, c6, c7, d1, d2]
     grind
 · simp [hb1, hb2, w1, exD_A, h, hk, hn, hf, ih, h1, hn0, c1, c2, d1]
   intros; omega
theorem ffit_loop (l : List Ex) (hln : l.length < 100000000) (hK : ∀ x ∈ l, KF (exs x)) (hs : ∀ x ∈ l, (exs x).length < 100000000) (k : Kt) (R1 R2 : Ans)
 (h1 : ∀ v X, k .ret ⟨126, gl0, [(2, true, .d (.bool false))], [⟨300, v, X⟩]⟩ = R1)
 (h2 : ∀ (Y : Env) v X, k (.exit 0) ⟨126, gl0, Y, [⟨300, v, X⟩]⟩ = R2) : ∀ (rest pre : List Ex) (v : Nat) (X : Cont), l = pre ++ rest →
 denK ctx 84 (.loop (Code.at (codeOf Tryz.f84) [1, 0, 1, 0, 0])) ⟨126, gl0, [(0, true, .d (.list (l.map exD))), (3, true, .d (.int .i64 pre.length))], [⟨300, v, X⟩]⟩ k = if fitXs rest = true then R2 else R1
 | [], pre, v, X, hd => by
  have hl0 : pre.length = l.length := by rw [hd]; simp
  rw [hl0, denK_loop]
  simp [Tryz.f84, h2, fitXs]
 | x :: rest, pre, v, X, hd => by
  have hb1 : pre.length < l.length := by rw [hd]; simp
  have hb2 : l[pre.length] = x := by simp [hd]
  have hk := hK x (by rw [hd]; simp)
  have hsl := hs x (by rw [hd]; simp)
  have ih : ∀ v X, denK ctx 84 (.loop (Code.at (codeOf Tryz.f84) [1, 0, 1, 0, 0])) ⟨126, gl0, [(0, true, .d (.list (l.map exD))), (3, true, .d (.int .i64 (pre.length + 1)))], [⟨300, v, X⟩]⟩ k = if fitXs rest = true then R2 else R1 := fun v X => by
   have := ffit_loop l hln hK hs k R1 R2 h1 h2 rest (pre ++ [x]) v X (by simp [hd])
   simpa using this
  have key : fitXs (x :: rest) = (fitX x && fitXs rest) := by rw [fitXs]
  rw [key]
  have hc : exo x < 1 ∨ exo x = 1 ∨ exo x = 2 ∨ exo x = 3 ∨ exo x = 4 ∨ exo x = 5 ∨ exo x = 6 ∨ exo x = 7 ∨ 7 < exo x := by omega
  rcases hc with h | h | h | h | h | h | h | h | h
  · exact fstep0 hln hb1 hb2 hk hsl k R1 R2 _ h1 ih h v X
  · exact fstep1 hln hb1 hb2 hk hsl k R1 R2 _ h1 ih h v X
  · exact fstep2 hln hb1 hb2 hk hsl k R1 R2 _ h1 ih h v X
  · exact fstep3 hln hb1 hb2 hk hsl k R1 R2 _ h1 ih h v X
  · exact fstep4 hln hb1 hb2 hk hsl k R1 R2 _ h1 ih h v X
  · exact fstep5 hln hb1 hb2 hk hsl k R1 R2 _ h1 ih h v X
  · exact fstep6 hln hb1 hb2 hk hsl k R1 R2 _ h1 ih h v X
  · exact fstep7 hln hb1 hb2 hk hsl k R1 R2 _ h1 ih h v X
  · exact fstep8 hln hb1 hb2 hk hsl k R1 R2 _ h1 ih h v X
theorem ffit_r {l : List Ex} (hln : l.length < 100000000) (hK : ∀ x ∈ l, KF (exs x)) (hs : ∀ x ∈ l, (exs x).length < 100000000) : KF l := by
 have h := fun k R1 R2 h1 h2 v X => ffit_loop l hln hK hs k R1 R2 h1 h2 l [] v X rfl
 unfold KF
 rw [run84 (by simp)]
 simp [Tryz.f84] at h ⊢
 rw [h _ (some (.ret (.d (.bool false)), [])) (some (.ret (.d (.bool true)), []))]
 · cases fitXs l <;> simp
 · intro v X; simp
 · intro Y v X; simp
mutual
def lnX : Ex → Prop
 | .mk _ _ name field sub _ => (name.length < 100000000 ∧ field.length < 100000000 ∧ sub.length < 100000000) ∧ lnXs sub
def lnXs : List Ex → Prop
 | [] => True
 | x :: r => lnX x ∧ lnXs r
end
mutual
theorem ffit_X : ∀ x : Ex, lnX x → KF (exs x) ∧ (exs x).length < 100000000
 | .mk op nn name field sub line, h => by
  simp only [lnX] at h
  have hs := ffit_Xs sub h.2
  exact ⟨ffit_r h.1.2.2 (fun x hx => (hs x hx).1) (fun x hx => (hs x hx).2), h.1.2.2⟩
theorem ffit_Xs : ∀ l : List Ex, lnXs l → ∀ x ∈ l, KF (exs x) ∧ (exs x).length < 100000000
 | [], _, x, hx => by simp at hx
 | y :: r, h, x, hx => by
  simp only [lnXs] at h
  have h1 := ffit_X y h.1
  have h2 := ffit_Xs r h.2
  rcases List.mem_cons.1 hx with e | hx
  · rw [e]; exact h1
  · exact h2 x hx
end
theorem ffit_all {l : List Ex} (hln : l.length < 100000000) (h : lnXs l) : KF l :=
 ffit_r hln (fun x hx => (ffit_Xs l h x hx).1) (fun x hx => (ffit_Xs l h x hx).2)
def errs (vs : List Vr) : List Ex → Option Te
 | [] => none
 | x :: r => if (tyX vs x).e = 0 then errs vs r else some (tyX vs x)
def errK (R : Ans) (RP : Int → Int → Ans) : Option Te → Ans
 | none => R
 | some t => RP t.e t.line
def KX (vs : List Vr) (n : Int) (y : Ex) : Prop := callT ctx 219 [.ptr 0 0 0, .d (.agg [.int .i64 (exo y), .int .i64 (exn y), .str (exa y), .str (exf y), .list ((exs y).map exD), .int .i64 (exl y)])] [.box [.vec 1 0 0 vs.length, .d (.int .i64 n)], .vec 8 (vs.map vrD)] =
 if (tyX vs y).e = 0 then some (.ret (.d (.int .i64 (tyX vs y).t)), kB2 vs n) else some (.panic 174 (ftD (tyX vs y).e (tyX vs y).line), kB2 vs n)
theorem kparts_loop {vs : List Vr} {n : Int} (l : List Ex) (hl : l.length < 1000000) (hK : ∀ y ∈ l, KX vs n y) (E1 : Ent) (h1 : E1.key = 250) (k : Kt) (R : Ans) (RP : Int → Int → Ans)
 (hp : ∀ env v1 v2 X1 X2 e ln, k (.panic 174 (ftD e ln)) ⟨23, gl0, env, [⟨0, 0, .box [.vec 1 0 0 vs.length, .d (.int .i64 n)]⟩, ⟨1, 0, .vec 8 (vs.map vrD)⟩, E1, ⟨350, v1, X1⟩, ⟨450, v2, X2⟩]⟩ = RP e ln)
 (hx : ∀ v1 v2 X2, k (.exit 0) ⟨23, gl0, [(0, true, .ptr 0 0 0), (5, true, .vec 350 v1 0 l.length), (9, true, .d (.list (l.map exD))), (10, true, .d (.int .i64 l.length)), (11, true, .d (.int .i64 l.length)), (12, true, .d (.bool false))], [⟨0, 0, .box [.vec 1 0 0 vs.length, .d (.int .i64 n)]⟩, ⟨1, 0, .vec 8 (vs.map vrD)⟩, E1, ⟨350, v1, .vec 1 (l.map fun y => .int .i64 (tyX vs y).t)⟩, ⟨450, v2, X2⟩]⟩ = R) :
 ∀ (rest pre : List Ex) (v1 v2 : Nat) (X2 : Cont), l = pre ++ rest →
 denK ctx 258 (.loop (Code.at (codeOf Tryz.f258) [1, 1, 0, 1, 0, 0])) ⟨23, gl0, [(0, true, .ptr 0 0 0), (5, true, .vec 350 v1 0 pre.length), (9, true, .d (.list (l.map exD))), (10, true, .d (.int .i64 l.length)), (11, true, .d (.int .i64 pre.length))], [⟨0, 0, .box [.vec 1 0 0 vs.length, .d (.int .i64 n)]⟩, ⟨1, 0, .vec 8 (vs.map vrD)⟩, E1, ⟨350, v1, .vec 1 (pre.map fun y => .int .i64 (tyX vs y).t)⟩, ⟨450, v2, X2⟩]⟩ k = errK R RP (errs vs rest)
 | [], pre, v1, v2, X2, hd => by
  have hx := hx v1 v2 X2
  simp at hd
  subst hd
  rw [denK_loop]
  simp [Tryz.f258, errs, errK, hx]
 | y :: rest, pre, v1, v2, X2, hd => by
  have ih := fun v1 v2 X2 => kparts_loop l hl hK E1 h1 k R RP hp hx rest (pre ++ [y]) v1 v2 X2 (by simp [hd])
  have hy : KX vs n y := hK y (by rw [hd]; simp)
  unfold KX at hy
  have w1 : (pre.length : Int) < pre.length + (rest.length + 1) := by omega
  have w2 : IntKind.i64.wrap ((pre.length : Int) + 1) = pre.length + 1 := wrap_id (by unfold I64; rw [hd] at hl; simp at hl; omega)
  have w3 : pre.length + 1 ≤ 4611686018427387904 := by rw [hd] at hl; simp at hl; omega
  have w4 : (pre.length + 1) * 8 ≤ 140737488355328 := by rw [hd] at hl; simp at hl; omega
  subst hd
  rw [denK_loop]
  unfold errs
  by_cases he : (tyX vs y).e = 0
  · simp [he] at hy
    simp [Tryz.f258, exD_A] at ih ⊢
    simp [w1, w2, w3, w4, h1, hy, he, exD_A, kB2, ih]
  · simp [he] at hy
    simp [Tryz.f258, exD_A] at ih ⊢
    simp [w1, w2, w3, w4, h1, hy, he, exD_A, kB2, hp, errK]
theorem kparts_r {vs : List Vr} {n : Int} (x : Ex) (hl : (exs x).length < 1000000) (hK : ∀ y ∈ exs x, KX vs n y) : callT ctx 258 [.ptr 0 0 0, .d (.agg [.int .i64 (exo x), .int .i64 (exn x), .str (exa x), .str (exf x), .list ((exs x).map exD), .int .i64 (exl x)])] [.box [.vec 1 0 0 vs.length, .d (.int .i64 n)], .vec 8 (vs.map vrD)] =
 errK (some (.ret (.d (.list ((exs x).map fun y => .int .i64 (tyX vs y).t))), kB2 vs n)) (fun e l => some (.panic 174 (ftD e l), kB2 vs n)) (errs vs (exs x)) := by
 have h := fun E1 h1 k R RP hp hx v1 v2 X2 => kparts_loop (vs := vs) (n := n) (exs x) hl hK E1 h1 k R RP hp hx (exs x) [] v1 v2 X2 rfl
 rw [run258 (by simp)]
 simp [Tryz.f258] at h ⊢
 rw [h _ rfl]
 · intro env v1 v2 X1 X2 e ln
   simp [kB2]
 · intro v1 v2 X2
   simp [kB2]
section
variable {vs : List Vr} {n : Int}
theorem knumber_r {y : Ex} (hy : KX vs n y) : callT ctx 154 [.ptr 0 0 0, .d (.agg [.int .i64 (exo y), .int .i64 (exn y), .str (exa y), .str (exf y), .list ((exs y).map exD), .int .i64 (exl y)])] [.box [.vec 1 0 0 vs.length, .d (.int .i64 n)], .vec 8 (vs.map vrD)] =
 if (wantX vs y 1).1 = 0 then some (.ret (.tup []), kB2 vs n) else some (.panic 174 (ftD (wantX vs y 1).1 (wantX vs y 1).2), kB2 vs n) := by
 unfold KX at hy
 rw [run154 (by simp)]
 by_cases h : (tyX vs y).e = 0
 · simp [h] at hy
   by_cases ht : (tyX vs y).t = 1
   · simp [Tryz.f154, hy, need_r, kB2, drwK_end, wantX, h, ht]
   · simp [Tryz.f154, hy, need_r, kB2, drwK_end, wantX, h, ht]
 · simp [h] at hy
   simp [Tryz.f154, hy, need_r, kB2, drwK_end, wantX, h]
theorem ktruth_r {y : Ex} (hy : KX vs n y) : callT ctx 156 [.ptr 0 0 0, .d (.agg [.int .i64 (exo y), .int .i64 (exn y), .str (exa y), .str (exf y), .list ((exs y).map exD), .int .i64 (exl y)])] [.box [.vec 1 0 0 vs.length, .d (.int .i64 n)], .vec 8 (vs.map vrD)] =
 if (wantX vs y 2).1 = 0 then some (.ret (.tup []), kB2 vs n) else some (.panic 174 (ftD (wantX vs y 2).1 (wantX vs y 2).2), kB2 vs n) := by
 unfold KX at hy
 rw [run156 (by simp)]
 by_cases h : (tyX vs y).e = 0
 · simp [h] at hy
   by_cases ht : (tyX vs y).t = 2
   · simp [Tryz.f156, hy, need_r, kB2, drwK_end, wantX, h, ht]
   · simp [Tryz.f156, hy, need_r, kB2, drwK_end, wantX, h, ht]
 · simp [h] at hy
   simp [Tryz.f156, hy, need_r, kB2, drwK_end, wantX, h]
def plT (vs : List Vr) (v : Vr) (x : Ex) : Te := if v.arr ≠ decide (exo x = 4) ∨ 2 < v.ty then badT 10 (exl x) else if exo x = 4 then tyI vs v.ty (exs x) else okT v.ty
def ansK (vs : List Vr) (n : Int) (t : Te) : Option (Out × List (Nat × Cont)) := if t.e = 0 then some (.ret (.d (.int .i64 t.t)), kB2 vs n) else some (.panic 174 (ftD t.e t.line), kB2 vs n)
theorem kplace_r {v : Vr} (hv : v.arr = true → v.ty ≤ 2) {x : Ex} (hs : exo x = 4 → ∃ y, exs x = [y] ∧ KX vs n y) : callT ctx 218 [.ptr 0 0 0, .d (vrD v), .d (.agg [.int .i64 (exo x), .int .i64 (exn x), .str (exa x), .str (exf x), .list ((exs x).map exD), .int .i64 (exl x)])] [.box [.vec 1 0 0 vs.length, .d (.int .i64 n)], .vec 8 (vs.map vrD)] =
 ansK vs n (plT vs v x) := by
 have hb := kblock_r v
 rw [run218 (by simp)]
 by_cases h4 : exo x = 4
 · obtain ⟨y, hy, hK⟩ := hs h4
   have hn := knumber_r hK
   by_cases ha : v.arr = true
   · have h2 : ¬ 2 < v.ty := by have := hv ha; omega
     have e : plT vs v x = tyI vs v.ty [y] := by simp [plT, h4, ha, h2, hy]
     rw [e]
     by_cases hw : (wantX vs y 1).1 = 0
     · simp [hw] at hn
       have e2 : tyI vs v.ty [y] = okT v.ty := by
        have h3 := hw
        unfold wantX at h3
        unfold tyI
        split at h3
        · rename_i h5; simp at h3; exact absurd h3 h5
        · rename_i h5
          split at h3
          · simp at h3
          · rename_i h6
            rw [if_neg h5, if_neg h6]
       rw [e2]
       simp [Tryz.f218, vrD, vrC, h4, ha, hy, hn, need_r, kB2, drwK_end, exD_A, ansK, okT]
     · simp [hw] at hn
       have e2 : tyI vs v.ty [y] = badT (wantX vs y 1).1 (wantX vs y 1).2 := by
        have h3 := hw
        unfold wantX at h3 ⊢
        unfold tyI
        split at h3
        · rename_i h5; rw [if_pos h5, if_pos h5]
        · rename_i h5
          rw [if_neg h5, if_neg h5]
          split at h3
          · rename_i h6; rw [if_pos h6, if_pos h6]
          · simp at h3
       rw [e2]
       simp [Tryz.f218, vrD, vrC, h4, ha, hy, hn, need_r, kB2, drwK_end, exD_A, ansK, badT, hw]
   · have ha : v.arr = false := by simpa using ha
     simp [Tryz.f218, vrD, vrC, h4, ha, need_r, kB2, drwK_end, ansK, plT, badT]
 · simp [vrD, vrC] at hb
   cases ha : v.arr with
   | true => simp [Tryz.f218, vrD, vrC, h4, ha, need_r, kB2, drwK_end, ansK, plT, badT]
   | false =>
    rw [ha] at hb
    by_cases h2 : 2 < v.ty
    · simp [h2] at hb
      simp [Tryz.f218, vrD, vrC, h4, ha, hb, need_r, kB2, drwK_end, ansK, plT, badT, h2]
    · simp [h2] at hb
      simp [Tryz.f218, vrD, vrC, h4, ha, hb, need_r, kB2, drwK_end, ansK, plT, okT, h2]
end
section
variable {vs : List Vr} {n : Int} (hl : vs.length < 1000000)
def flT (vs : List Vr) (x : Ex) : Te := match findV vs (exa x) with
 | none => badT 9 (exl x)
 | some v => if v.ty ≤ 2 then badT 10 (exl x) else match pinF v.ty (exf x) with
  | none => badT 9 (exl x)
  | some p => okT p.ty
include hl
theorem kfield_r (x : Ex) : callT ctx 257 [.ptr 0 0 0, .d (.agg [.int .i64 (exo x), .int .i64 (exn x), .str (exa x), .str (exf x), .list ((exs x).map exD), .int .i64 (exl x)])] [.box [.vec 1 0 0 vs.length, .d (.int .i64 n)], .vec 8 (vs.map vrD)] =
 ansK vs n (flT vs x) := by
 have hv := kvariable_r (n := n) hl (exa x) (exl x)
 rw [run257 (by simp)]
 cases hf : findV vs (exa x) with
 | none =>
  simp [hf] at hv
  simp [Tryz.f257, hv, kB2, ansK, flT, hf, badT]
 | some v =>
  have hb := kblock_r v
  have hp := kpin_r v (exf x)
  simp [hf, fV, vrD, vrC] at hv hb hp
  by_cases h2 : 2 < v.ty
  · have h3 : ¬ v.ty ≤ 2 := by omega
    cases hq : pinF v.ty (exf x) with
    | none =>
     simp [hq, fP, pnD, pnZ] at hp
     simp [Tryz.f257, hv, hb, hp, need_r, kB2, drwK_end, ansK, flT, hf, badT, h2, h3, hq, vrD, vrC]
    | some p =>
     simp [hq, fP, pnD] at hp
     simp [Tryz.f257, hv, hb, hp, need_r, kB2, drwK_end, ansK, flT, hf, okT, h2, h3, hq, vrD, vrC]
  · have h3 : v.ty ≤ 2 := by omega
    simp [Tryz.f257, hv, hb, need_r, kB2, drwK_end, ansK, flT, hf, badT, h2, h3, vrD, vrC]
theorem kop1_r {op nn line : Int} {name field : Tx} {a : Ex} (h6 : 6 ≤ op) (hK : KX vs n a) : KX vs n (.mk op nn name field [a] line) := by
 have hp := kparts_r (vs := vs) (n := n) (.mk op nn name field [a] line) (by simp) (by simpa using hK)
 have e : tyX vs (.mk op nn name field [a] line) = opT2 op line (tyX vs a) (tyX vs a) := by
  conv => lhs; unfold tyX
  rw [if_neg (by omega), if_neg (by omega)]
  simp only [tyO]
 have c1 : ¬ op = 1 := by omega
 have c2 : ¬ op = 2 := by omega
 have c3 : ¬ op = 3 := by omega
 have c4 : ¬ op = 4 := by omega
 have c5 : ¬ op = 5 := by omega
 have k1 := kalls_r [(tyX vs a).t] 1 (by simp)
 have k2 := kalls_r [(tyX vs a).t] 2 (by simp)
 have k3 := kalls_r [(tyX vs a).t] (tyX vs a).t (by simp)
 unfold KX
 rw [e]
 simp only [exo_mk, exn_mk, exa_mk, exf_mk, exs_mk, exl_mk] at hp ⊢
 rw [run219 (by simp)]
 by_cases ha : (tyX vs a).e = 0
 · simp [errs, ha, errK] at hp k1 k2 k3
   simp [Tryz.f219, hp, k1, k2, k3, need_r, kB2, drwK_end, c1, c2, c3, c4, c5, opT2, ha, takT, givT, badT, okT]
   grind
 · simp [errs, ha, errK] at hp
   simp [Tryz.f219, hp, kB2, drwK_end, c1, c2, c3, c4, c5, opT2, ha]
theorem kop2_r {op nn line : Int} {name field : Tx} {a b : Ex} (h6 : 6 ≤ op) (hK : KX vs n a) (hK2 : KX vs n b) : KX vs n (.mk op nn name field [a, b] line) := by
 have hp := kparts_r (vs := vs) (n := n) (.mk op nn name field [a, b] line) (by simp) (by simp [hK, hK2])
 have e : tyX vs (.mk op nn name field [a, b] line) = opT2 op line (tyX vs a) (tyX vs b) := by
  conv => lhs; unfold tyX
  rw [if_neg (by omega), if_neg (by omega)]
  simp only [tyO]
 have c1 : ¬ op = 1 := by omega
 have c2 : ¬ op = 2 := by omega
 have c3 : ¬ op = 3 := by omega
 have c4 : ¬ op = 4 := by omega
 have c5 : ¬ op = 5 := by omega
 have k1 := kalls_r [(tyX vs a).t, (tyX vs b).t] 1 (by simp)
 have k2 := kalls_r [(tyX vs a).t, (tyX vs b).t] 2 (by simp)
 have k3 := kalls_r [(tyX vs a).t, (tyX vs b).t] (tyX vs a).t (by simp)
 unfold KX
 rw [e]
 simp only [exo_mk, exn_mk, exa_mk, exf_mk, exs_mk, exl_mk] at hp ⊢
 rw [run219 (by simp)]
 by_cases ha : (tyX vs a).e = 0
 · by_cases hb : (tyX vs b).e = 0
   · simp [errs, ha, hb, errK] at hp k1 k2 k3
     simp [Tryz.f219, hp, k1, k2, k3, need_r, kB2, drwK_end, c1, c2, c3, c4, c5, opT2, ha, hb, takT, givT, badT, okT]
     grind
   · simp [errs, ha, hb, errK] at hp
     simp [Tryz.f219, hp, kB2, drwK_end, c1, c2, c3, c4, c5, opT2, ha, hb]
 · simp [errs, ha, errK] at hp
   simp [Tryz.f219, hp, kB2, drwK_end, c1, c2, c3, c4, c5, opT2, ha]
end
end Go.Am
end
section
namespace Go.Am
open Go
theorem findV_mem {s : Tx} {v : Vr} : ∀ {l : List Vr}, findV l s = some v → v ∈ l ∧ v.name = s
 | x :: r, h => by
  unfold findV at h
  split at h
  · rename_i e; cases h; exact ⟨by simp, e⟩
  · have := findV_mem h; exact ⟨by simp [this.1], this.2⟩
end Go.Am
end
section
namespace Go.Am
open Go Go.Proofs
variable [Inhabited Mx2]
set_option maxRecDepth 20000
section
variable {vs : List Vr} {n : Int} (hl : vs.length < 1000000) (hvs : ∀ v ∈ vs, fitV v = true)
include hl hvs
omit hl hvs in
theorem fit_arr {v : Vr} (h : fitV v = true) : v.arr = true → v.ty ≤ 2 := by
 intro ha
 simp only [fitV, Bool.and_eq_true, ha, if_true, decide_eq_true_eq] at h
 omega
omit hl hvs in
theorem kcon_r {op nn line : Int} {name field : Tx} {sub : List Ex} (h : op = 1 ∨ op = 2) : KX vs n (.mk op nn name field sub line) := by
 unfold KX
 have e : tyX vs (.mk op nn name field sub line) = okT op := by
  conv => lhs; unfold tyX
  rw [if_pos h]
 rw [e]
 simp only [exo_mk, exn_mk, exa_mk, exf_mk, exs_mk, exl_mk]
 rw [run219 (by simp)]
 rcases h with rfl | rfl
 · simp [Tryz.f219, kB2, drwK_end, okT]
 · simp [Tryz.f219, kB2, drwK_end, okT]
theorem kvarx_r {op nn line : Int} {name field : Tx} {sub : List Ex} (h : op = 3 ∨ op = 4) (hs : op = 4 → ∃ y, sub = [y] ∧ KX vs n y) : KX vs n (.mk op nn name field sub line) := by
 have hv := kvariable_r (n := n) hl name line
 have e : tyX vs (.mk op nn name field sub line) = match findV vs name with | none => badT 9 line | some v => plT vs v (.mk op nn name field sub line) := by
  conv => lhs; unfold tyX
  rw [if_neg (by omega), if_pos (by omega)]
  cases findV vs name with
  | none => rfl
  | some v =>
   simp only [plT, exo_mk, exl_mk, exs_mk]
   rw [if_neg (by omega)]
   rfl
 unfold KX
 rw [e]
 cases hf : findV vs name with
 | none =>
  simp [hf] at hv
  simp only [exo_mk, exn_mk, exa_mk, exf_mk, exs_mk, exl_mk]
  rw [run219 (by simp)]
  rcases h with rfl | rfl
  · simp [Tryz.f219, hv, kB2, drwK_end, badT]
  · simp [Tryz.f219, hv, kB2, drwK_end, badT]
 | some v =>
  have hp := kplace_r (vs := vs) (n := n) (v := v) (x := .mk op nn name field sub line) (fit_arr (hvs v (findV_mem hf).1)) hs
  simp [hf, fV, vrD, vrC] at hv hp
  simp only [exo_mk, exn_mk, exa_mk, exf_mk, exs_mk, exl_mk] at hp ⊢
  generalize plT vs v (.mk op nn name field sub line) = t at *
  rw [run219 (by simp)]
  by_cases ht : t.e = 0
  · simp [ansK, ht] at hp
    rcases h with rfl | rfl
    · simp [Tryz.f219, hv, hp, kB2, drwK_end, vrD, vrC, ht]
    · simp [Tryz.f219, hv, hp, kB2, drwK_end, vrD, vrC, ht]
  · simp [ansK, ht] at hp
    rcases h with rfl | rfl
    · simp [Tryz.f219, hv, hp, kB2, drwK_end, vrD, vrC, ht]
    · simp [Tryz.f219, hv, hp, kB2, drwK_end, vrD, vrC, ht]
theorem kfieldx_r {nn line : Int} {name field : Tx} {sub : List Ex} : KX vs n (.mk 5 nn name field sub line) := by
 have hf := kfield_r (n := n) hl (.mk 5 nn name field sub line)
 have e : tyX vs (.mk 5 nn name field sub line) = flT vs (.mk 5 nn name field sub line) := by
  conv => lhs; unfold tyX
  rw [if_neg (by omega), if_pos (by omega)]
  simp only [flT, exa_mk, exl_mk, exf_mk]
  cases findV vs name with
  | none => rfl
  | some v => simp only [if_true]; try rfl
 unfold KX
 rw [e]
 simp only [exo_mk, exn_mk, exa_mk, exf_mk, exs_mk, exl_mk] at hf ⊢
 generalize flT vs (.mk 5 nn name field sub line) = t at *
 rw [run219 (by simp)]
 by_cases ht : t.e = 0
 · simp [ansK, ht] at hf
   simp [Tryz.f219, hf, kB2, drwK_end, ht]
 · simp [ansK, ht] at hf
   simp [Tryz.f219, hf, kB2, drwK_end, ht]
mutual
theorem kexpr_r : ∀ x : Ex, fitX x = true → KX vs n x
 | .mk op nn name field sub line, hf => by
  simp only [fitX, Bool.and_eq_true, decide_eq_true_eq, Bool.not_eq_true', decide_eq_false_iff_not] at hf
  obtain ⟨hop, hlen, _, _, hsub⟩ := hf
  have ih := kexprs_r sub hsub
  unfold subsN at hlen
  by_cases h12 : op = 1 ∨ op = 2
  · exact kcon_r h12
  · by_cases h5 : op = 5
    · subst h5; exact kfieldx_r hl hvs
    · by_cases h34 : op = 3 ∨ op = 4
      · refine kvarx_r hl hvs h34 (fun h4 => ?_)
        rw [if_pos (.inl h4)] at hlen
        match sub, hlen with
        | [y], _ => exact ⟨y, rfl, ih y (by simp)⟩
      · by_cases h67 : op = 6 ∨ op = 7
        · rw [if_pos (.inr h67)] at hlen
          match sub, hlen with
          | [y], _ => exact kop1_r hl (by omega) (ih y (by simp))
        · rw [if_neg (by omega), if_pos (by omega)] at hlen
          match sub, hlen with
          | [y, z], _ => exact kop2_r hl (by omega) (ih y (by simp)) (ih z (by simp))
theorem kexprs_r : ∀ l : List Ex, fitXs l = true → ∀ y ∈ l, KX vs n y
 | [], _, y, hy => by simp at hy
 | x :: r, hf, y, hy => by
  simp only [fitXs, Bool.and_eq_true] at hf
  have h1 := kexpr_r x hf.1
  have h2 := kexprs_r r hf.2
  rcases List.mem_cons.1 hy with h | hy
  · rw [h]; exact h1
  · exact h2 y hy
end
end
@[simp] def smL (x : Sm) : List D := [.int .i64 (smo x), .str (sma x),
 .int .i64 (exo (smt x)), .int .i64 (exn (smt x)), .str (exa (smt x)), .str (exf (smt x)), .list ((exs (smt x)).map exD), .int .i64 (exl (smt x)),
 .int .i64 (exo (smv x)), .int .i64 (exn (smv x)), .str (exa (smv x)), .str (exf (smv x)), .list ((exs (smv x)).map exD), .int .i64 (exl (smv x)),
 .list ((smc x).map exD), .list ((smlb x).map lbD), .list ((smf x).map .str), .list ((smb x).map bkD), .int .i64 (sml x)]
def ansE (vs : List Vr) (n n' : Int) (e : EL) : Option (Out × List (Nat × Cont)) := if e.1 = 0 then some (.ret (.tup []), kB2 vs n) else some (.panic 174 (ftD e.1 e.2), kB2 vs n')
theorem tyX_pl {vs : List Vr} {x : Ex} {v : Vr} (h : exo x = 3 ∨ exo x = 4) (hf : findV vs (exa x) = some v) : tyX vs x = plT vs v x := by
 obtain ⟨op, nn, name, field, sub, line⟩ := x
 simp only [exo_mk, exa_mk] at h hf
 conv => lhs; unfold tyX
 rw [if_neg (by omega), if_pos (by omega), hf]
 simp only [plT, exo_mk, exl_mk, exs_mk]
 rw [if_neg (by omega)]
 rfl
section
variable {vs : List Vr} {n : Int} (hl : vs.length < 1000000) (hvs : ∀ v ∈ vs, fitV v = true)
include hl hvs
theorem kassign_r {x : Sm} (h3 : exo (smt x) = 3 ∨ exo (smt x) = 4) (hval : KX vs n (smv x)) (hto : exo (smt x) = 4 → ∃ y, exs (smt x) = [y] ∧ KX vs n y) : callT ctx 152 [.ptr 0 0 0, .d (.agg (smL x))] [.box [.vec 1 0 0 vs.length, .d (.int .i64 n)], .vec 8 (vs.map vrD)] =
 ansE vs n n (asE vs (smt x) (smv x) (sml x)) := by
 have hv := kvariable_r (n := n) hl (exa (smt x)) (exl (smt x))
 unfold KX at hval
 rw [run152 (by simp)]
 cases hf : findV vs (exa (smt x)) with
 | none =>
  simp [hf] at hv
  simp [Tryz.f152, hv, kB2, ansE, asE, hf]
 | some v =>
  have hp := kplace_r (vs := vs) (n := n) (v := v) (x := smt x) (fit_arr (hvs v (findV_mem hf).1)) hto
  have e := tyX_pl h3 hf
  simp [hf, fV, vrD, vrC] at hv hp
  by_cases hsec : v.sec = 1
  · simp [Tryz.f152, hv, need_r, kB2, ansE, asE, hf, hsec, vrD, vrC]
  · have ea : asE vs (smt x) (smv x) (sml x) = orE (teE (plT vs v (smt x))) (orE (teE (tyX vs (smv x))) (if (tyX vs (smv x)).t ≠ (plT vs v (smt x)).t then (10, sml x) else (0, 0))) := by
     unfold asE
     rw [hf]
     simp only
     rw [if_neg hsec, e]
    rw [ea]
    generalize plT vs v (smt x) = t at *
    generalize tyX vs (smv x) = t2 at *
    by_cases ht : t.e = 0
    · simp [ansK, ht] at hp
      by_cases ht2 : t2.e = 0
      · simp [ht2] at hval
        by_cases he : t2.t = t.t
        · simp [Tryz.f152, hv, hp, hval, need_r, kB2, drwK_end, ansE, hsec, vrD, vrC, orE, teE, ht, ht2, he]
        · simp [Tryz.f152, hv, hp, hval, need_r, kB2, drwK_end, ansE, hsec, vrD, vrC, orE, teE, ht, ht2, he]
      · simp [ht2] at hval
        simp [Tryz.f152, hv, hp, hval, need_r, kB2, drwK_end, ansE, hsec, vrD, vrC, orE, teE, ht, ht2]
    · simp [ansK, ht] at hp
      simp [Tryz.f152, hv, hp, need_r, kB2, drwK_end, ansE, hsec, vrD, vrC, orE, teE, ht]
omit hl hvs in
theorem kcounted_loop (x : Sm) (hln : (smc x).length < 100000000) (hK : ∀ y ∈ smc x, KX vs n y) (E1 E2 : Ent) (h1 : E1.key = 250) (h2 : E2.key = 300) (v0 : Nat) (k : Kt) (R : Ans) (RP : EL → Ans)
 (hp : ∀ env v2 X2 e ln, k (.panic 174 (ftD e ln)) ⟨47, gl0, env, [⟨0, 0, .box [.vec 1 0 0 vs.length, .d (.int .i64 n)]⟩, ⟨1, 0, .vec 8 (vs.map vrD)⟩, E1, E2, ⟨400, v2, X2⟩]⟩ = RP (e, ln))
 (hx : ∀ v2 X2, k (.exit 0) ⟨47, gl0, [(0, true, .ptr 0 0 0), (3, true, .ptr 250 v0 0), (31, true, .d (.list ((smc x).map exD))), (32, true, .d (.int .i64 (smc x).length)), (33, true, .d (.int .i64 (smc x).length)), (34, true, .d (.bool false))], [⟨0, 0, .box [.vec 1 0 0 vs.length, .d (.int .i64 n)]⟩, ⟨1, 0, .vec 8 (vs.map vrD)⟩, E1, E2, ⟨400, v2, X2⟩]⟩ = R) :
 ∀ (rest pre : List Ex) (v2 : Nat) (X2 : Cont), smc x = pre ++ rest →
 denK ctx 155 (.loop (Code.at (codeOf Tryz.f155) [1, 1, 1, 1, 0, 1, 0, 0])) ⟨47, gl0, [(0, true, .ptr 0 0 0), (3, true, .ptr 250 v0 0), (31, true, .d (.list ((smc x).map exD))), (32, true, .d (.int .i64 (smc x).length)), (33, true, .d (.int .i64 pre.length))], [⟨0, 0, .box [.vec 1 0 0 vs.length, .d (.int .i64 n)]⟩, ⟨1, 0, .vec 8 (vs.map vrD)⟩, E1, E2, ⟨400, v2, X2⟩]⟩ k = if (wantsE vs 1 rest).1 = 0 then R else RP (wantsE vs 1 rest)
 | [], pre, v2, X2, hd => by
  have hx := hx v2 X2
  simp at hd
  rw [hd] at hx ⊢
  rw [denK_loop]
  simp [Tryz.f155, wantsE, hx]
 | y :: rest, pre, v2, X2, hd => by
  have ih := fun v2 X2 => kcounted_loop x hln hK E1 E2 h1 h2 v0 k R RP hp hx rest (pre ++ [y]) v2 X2 (by simp [hd])
  have hy := knumber_r (hK y (by rw [hd]; simp))
  have w1 : (pre.length : Int) < pre.length + (rest.length + 1) := by omega
  have w2 : IntKind.i64.wrap ((pre.length : Int) + 1) = pre.length + 1 := wrap_id (by unfold I64; rw [hd] at hln; simp at hln; omega)
  rw [denK_loop]
  unfold wantsE
  rw [hd] at ih ⊢
  by_cases he : (wantX vs y 1).1 = 0
  · simp [he] at hy
    have e : orE (wantX vs y 1) (wantsE vs 1 rest) = wantsE vs 1 rest := by unfold orE; rw [if_neg (by simp [he])]
    rw [e]
    simp [Tryz.f155, exD_A] at ih ⊢
    simp [w1, w2, h1, h2, hy, he, exD_A, kB2, ih]
  · simp [he] at hy
    have e : orE (wantX vs y 1) (wantsE vs 1 rest) = wantX vs y 1 := by unfold orE; rw [if_pos he]
    rw [e, if_neg he]
    simp [Tryz.f155, exD_A] at ih ⊢
    simp [w1, w2, h1, h2, hy, he, exD_A, kB2, hp]
end
theorem sidx_loop (s : Tx) : ∀ (rest pre : List Tx), (pre ++ rest).length < 100000000 → ∀ k : Kt,
 denK ctx 261 (.loop (Code.at (codeOf Tryz.f261) [1, 0, 1, 0, 0])) ⟨19, gl0, [(0, true, .d (.list ((pre ++ rest).map .str))), (1, true, .d (.str s)), (7, true, .d (.int .i64 (pre ++ rest).length)), (8, true, .d (.int .i64 pre.length))], []⟩ k =
  if idxP (fun x : Tx => decide (s = x)) rest pre.length < 0 then k (.exit 0) ⟨19, gl0, [(0, true, .d (.list ((pre ++ rest).map .str))), (1, true, .d (.str s)), (7, true, .d (.int .i64 (pre ++ rest).length)), (8, true, .d (.int .i64 (pre ++ rest).length)), (9, true, .d (.bool false))], []⟩
  else k .ret ⟨19, gl0, [(4, true, .d (.int .i64 (idxP (fun x : Tx => decide (s = x)) rest pre.length)))], []⟩
 | [], pre, hl, k => by
  rw [denK_loop]
  simp [Tryz.f261, idxP]
 | x :: rest, pre, hl, k => by
  have ih := sidx_loop s rest (pre ++ [x]) (by simpa using hl) k
  have h1 : (pre.length : Int) < pre.length + (rest.length + 1) := by omega
  have h2 : IntKind.i64.wrap ((pre.length : Int) + 1) = pre.length + 1 := wrap_id (by unfold I64; simp at hl; omega)
  have h3 : ¬ ((pre.length : Int) < 0) := by omega
  rw [denK_loop]
  by_cases he : s = x
  · have key : idxP (fun x : Tx => decide (s = x)) (x :: rest) pre.length = pre.length := by unfold idxP; rw [if_pos (by simp [he])]
    rw [key]
    simp [Tryz.f261, h1, h2, h3, he]
  · have key : idxP (fun x : Tx => decide (s = x)) (x :: rest) pre.length = idxP (fun x : Tx => decide (s = x)) rest (pre.length + 1) := by
     conv => lhs; unfold idxP
     rw [if_neg (by simp [he])]
    rw [key]
    simp [Tryz.f261] at ih ⊢
    simp [h1, h2, he, ih]
theorem scont_r (l : List Tx) (s : Tx) (hl : l.length < 100000000) : callT ctx 222 [.d (.list (l.map .str)), .d (.str s)] [] = some (.ret (.d (.bool (decide (s ∈ l)))), []) := by
 have h := fun k => sidx_loop s l [] (by simpa using hl) k
 have ha := idxP_any0 (fun x : Tx => decide (s = x)) l 0
 have hr := idxP_range (fun x : Tx => decide (s = x)) l 0
 have hi : callT ctx 261 [.d (.list (l.map .str)), .d (.str s)] [] = some (.ret (.d (.int .i64 (idxP (fun x : Tx => decide (s = x)) l 0))), []) := by
  rw [run261 (by simp)]
  simp [Tryz.f261] at h ⊢
  simp [h]
  intro h0
  rcases hr with h1 | h1
  · exact h1.symm
  · omega
 have e : decide (0 ≤ idxP (fun x : Tx => decide (s = x)) l 0) = decide (s ∈ l) := by
  rw [decide_eq_decide, ha, List.any_eq_true]
  constructor
  · rintro ⟨x, hx, h⟩; simp at h; subst h; exact hx
  · intro h; exact ⟨s, h, by simp⟩
 rw [run222 (by simp)]
 simp [Tryz.f222, hi, e]
@[simp] def bxS (x : Sm) : Cont := .box [.d (.int .i64 (smo x)), .d (.str (sma x)), .d (.int .i64 (exo (smt x))), .d (.int .i64 (exn (smt x))), .d (.str (exa (smt x))), .d (.str (exf (smt x))), .d (.list ((exs (smt x)).map exD)), .d (.int .i64 (exl (smt x))),
 .d (.int .i64 (exo (smv x))), .d (.int .i64 (exn (smv x))), .d (.str (exa (smv x))), .d (.str (exf (smv x))), .d (.list ((exs (smv x)).map exD)), .d (.int .i64 (exl (smv x))), .d (.list ((smc x).map exD)), .d (.list ((smlb x).map lbD)), .d (.list ((smf x).map .str)), .d (.list ((smb x).map bkD)), .d (.int .i64 (sml x))]
@[simp] def bxV (v : Vr) : Cont := .box [.d (.str v.name), .d (.int .i64 v.ty), .d (.int .i64 v.sec), .d (.bool v.arr), .d (.int .i64 v.lo), .d (.int .i64 v.hi), .d (.int .i64 v.init), .d (.int .i64 v.line)]
section
variable {vs : List Vr} {n : Int} (hl : vs.length < 1000000) (hvs : ∀ v ∈ vs, fitV v = true)
def KMs (vs : List Vr) (n : Int) (l : List Sm) : Prop := ∃ n', callT ctx 67 [.ptr 0 0 0, .d (.list (l.map smD))] [.box [.vec 1 0 0 vs.length, .d (.int .i64 n)], .vec 8 (vs.map vrD)] = ansE vs n n' (chMs vs (decide (0 < n)) l)
def KM (vs : List Vr) (n : Int) (x : Sm) : Prop := ∃ n', callT ctx 104 [.ptr 0 0 0, .d (.agg (smL x))] [.box [.vec 1 0 0 vs.length, .d (.int .i64 n)], .vec 8 (vs.map vrD)] = ansE vs n n' (chM vs (decide (0 < n)) x)
theorem kloop_r {b : List Sm} (h0 : 0 ≤ n) (hn : n < 100000000) (hK : KMs vs (n + 1) b) : ∃ n', callT ctx 157 [.ptr 0 0 0, .d (.list (b.map smD))] [.box [.vec 1 0 0 vs.length, .d (.int .i64 n)], .vec 8 (vs.map vrD)] = ansE vs n n' (chMs vs true b) := by
 obtain ⟨n', h⟩ := hK
 refine ⟨n', ?_⟩
 have w1 : IntKind.i64.wrap (n + 1) = n + 1 := wrap_id (by unfold I64; omega)
 have w2 : IntKind.i64.wrap (n + 1 - 1) = n := by rw [show n + 1 - 1 = n by omega]; exact wrap_id (by unfold I64; omega)
 have e : decide (0 < n + 1) = true := by simp; omega
 have w3 : IntKind.i64.wrap n = n := wrap_id (by unfold I64; omega)
 rw [e] at h
 rw [run157 (by simp)]
 generalize chMs vs true b = E at *
 by_cases hE : E.1 = 0
 · simp [ansE, hE] at h
   simp [Tryz.f157, w1, w2, w3, h, kB2, ansE, hE]
 · simp [ansE, hE] at h
   simp [Tryz.f157, w1, w2, w3, h, kB2, ansE, hE]
include hl hvs
omit hl hvs in
theorem kbranch_loop (x : Sm) (hln : (smb x).length < 100000000) (hK : ∀ b ∈ smb x, KMs vs n b) (hC : ∀ y ∈ smc x, KX vs n y) (v0 : Nat) (k : Kt) (R : Ans) (RP : EL → Int → Ans)
 (hp : ∀ env e ln n', k (.panic 174 (ftD e ln)) ⟨30, gl0, env, [⟨0, 0, .box [.vec 1 0 0 vs.length, .d (.int .i64 n')]⟩, ⟨1, 0, .vec 8 (vs.map vrD)⟩, ⟨250, v0, bxS x⟩]⟩ = RP (e, ln) n')
 (hx : k (.exit 0) ⟨30, gl0, [(0, true, .ptr 0 0 0), (3, true, .ptr 250 v0 0), (7, true, .d (.list ((smb x).map bkD))), (8, true, .d (.int .i64 (smb x).length)), (9, true, .d (.int .i64 (smb x).length)), (10, true, .d (.bool false))], [⟨0, 0, .box [.vec 1 0 0 vs.length, .d (.int .i64 n)]⟩, ⟨1, 0, .vec 8 (vs.map vrD)⟩, ⟨250, v0, bxS x⟩]⟩ = R) :
 ∀ (rb pb : List (List Sm)) (rc pc : List Ex), smb x = pb ++ rb → smc x = pc ++ rc → (pc.length = pb.length ∨ (rc = [] ∧ pc.length ≤ pb.length)) →
 ∃ n', denK ctx 153 (.loop (Code.at (codeOf Tryz.f153) [1, 1, 0, 0])) ⟨30, gl0, [(0, true, .ptr 0 0 0), (3, true, .ptr 250 v0 0), (7, true, .d (.list ((smb x).map bkD))), (8, true, .d (.int .i64 (smb x).length)), (9, true, .d (.int .i64 pb.length))], [⟨0, 0, .box [.vec 1 0 0 vs.length, .d (.int .i64 n)]⟩, ⟨1, 0, .vec 8 (vs.map vrD)⟩, ⟨250, v0, bxS x⟩]⟩ k = if (chC vs (decide (0 < n)) rc rb).1 = 0 then R else RP (chC vs (decide (0 < n)) rc rb) n'
 | [], pb, rc, pc, hb, hc, hi => by
  refine ⟨0, ?_⟩
  have e : chC vs (decide (0 < n)) rc [] = (0, 0) := by cases rc <;> simp [chC]
  have hl0 : pb.length = (smb x).length := by rw [hb]; simp
  rw [e, hl0]
  simp only [bxS] at hx ⊢
  rw [denK_loop]
  simp [Tryz.f153, hx]
 | b :: rb, pb, rc, pc, hb, hc, hi => by
  have hb1 : pb.length < (smb x).length := by rw [hb]; simp
  have hb2 : (smb x)[pb.length] = b := by simp [hb]
  have w2 : IntKind.i64.wrap ((pb.length : Int) + 1) = pb.length + 1 := wrap_id (by unfold I64; omega)
  obtain ⟨nb, hs⟩ := hK b (by rw [hb]; simp)
  simp only [bxS] at hp
  match rc, hc, hi with
  | [], hc, hi =>
   have hlt : ¬ pb.length < (smc x).length := by rw [hc]; simp at hi ⊢; omega
   obtain ⟨n', ih⟩ := kbranch_loop x hln hK hC v0 k R RP hp hx rb (pb ++ [b]) [] pc (by simp [hb]) hc (by simp at hi ⊢; omega)
   have e : chC vs (decide (0 < n)) [] (b :: rb) = orE (chMs vs (decide (0 < n)) b) (chC vs (decide (0 < n)) [] rb) := by simp [chC]
   rw [e]
   generalize chMs vs (decide (0 < n)) b = E at *
   rw [denK_loop]
   by_cases hE : E.1 = 0
   · refine ⟨n', ?_⟩
     have e2 : orE E (chC vs (decide (0 < n)) [] rb) = chC vs (decide (0 < n)) [] rb := by unfold orE; rw [if_neg (by simp [hE])]
     rw [e2, ← ih]
     simp [ansE, hE] at hs
     simp [Tryz.f153]
     simp [hb1, hb2, w2, hlt, hs, kB2, bkD]
   · refine ⟨nb, ?_⟩
     have e2 : orE E (chC vs (decide (0 < n)) [] rb) = E := by unfold orE; rw [if_pos hE]
     rw [e2, if_neg hE]
     simp [ansE, hE] at hs
     simp [Tryz.f153]
     simp [hb1, hb2, w2, hlt, hs, kB2, bkD, hp]
  | c :: rc, hc, hi =>
   have hpl : pc.length = pb.length := by simp at hi; exact hi
   have hlt : pb.length < (smc x).length := by rw [hc]; simp; omega
   have hc2 : (smc x)[pb.length] = c := by simp [hc, ← hpl]
   have ht := ktruth_r (hC c (by rw [hc]; simp))
   obtain ⟨n', ih⟩ := kbranch_loop x hln hK hC v0 k R RP hp hx rb (pb ++ [b]) rc (pc ++ [c]) (by simp [hb]) (by simp [hc]) (by simp; omega)
   have e : chC vs (decide (0 < n)) (c :: rc) (b :: rb) = orE (wantX vs c 2) (orE (chMs vs (decide (0 < n)) b) (chC vs (decide (0 < n)) rc rb)) := by simp [chC]
   rw [e]
   generalize chMs vs (decide (0 < n)) b = E at *
   generalize wantX vs c 2 = W at *
   rw [denK_loop]
   by_cases hW : W.1 = 0
   · have e1 : ∀ r, orE W r = r := fun r => by unfold orE; rw [if_neg (by simp [hW])]
     rw [e1]
     simp [hW] at ht
     by_cases hE : E.1 = 0
     · refine ⟨n', ?_⟩
       have e2 : orE E (chC vs (decide (0 < n)) rc rb) = chC vs (decide (0 < n)) rc rb := by unfold orE; rw [if_neg (by simp [hE])]
       rw [e2, ← ih]
       simp [ansE, hE] at hs
       simp [Tryz.f153]
       simp [hb1, hb2, hc2, w2, hlt, hs, ht, kB2, bkD, exD_A]
     · refine ⟨nb, ?_⟩
       have e2 : orE E (chC vs (decide (0 < n)) rc rb) = E := by unfold orE; rw [if_pos hE]
       rw [e2, if_neg hE]
       simp [ansE, hE] at hs
       simp [Tryz.f153]
       simp [hb1, hb2, hc2, w2, hlt, hs, ht, kB2, bkD, exD_A, hp]
   · refine ⟨n, ?_⟩
     have e1 : ∀ r, orE W r = W := fun r => by unfold orE; rw [if_pos hW]
     rw [e1, if_neg hW]
     simp [hW] at ht
     simp [Tryz.f153]
     simp [hb1, hb2, hc2, w2, hlt, ht, kB2, bkD, exD_A, hp]
end
@[reducible] noncomputable def fsC (p : List Nat) : Code := Code.at (codeOf Tryz.f44) p
section
variable {x : Sm} {v : Nat} {k : Kt} {R1 : Ans} {a b : AV} (hr : k .ret ⟨258, gl0, [(2, true, .d (.bool false))], [⟨300, v, bxS x⟩]⟩ = R1)
def smKi (x : Sm) : Bool := decide (1 ≤ smo x ∧ smo x ≤ 9) && (if smo x = 4 ∨ smo x = 9 then nameF (sma x) else decide (sma x = []))
def smTo (x : Sm) : Bool := if smo x = 1 then decide (exo (smt x) = 3 ∨ exo (smt x) = 4) && fitX (smt x) else noneX (smt x)
def smVa (x : Sm) : Bool := (if smo x = 1 ∨ smo x = 3 ∨ smo x = 5 ∨ smo x = 6 then !noneX (smv x) && fitX (smv x) else noneX (smv x)) && fitXs (smc x)
include hr
theorem fsA1 {d6 d7 : AV} : denK ctx 44 (fsC [1, 0, 1, 0, 0, 1, 0, 0, 1, 1, 0]) ⟨258, gl0, [(0, true, a), (3, true, b), (4, true, .ptr 300 v 0), (5, true, .d (.bool (decide (smo x = 4 ∨ smo x = 9)))), (6, true, d6), (7, true, d7)], [⟨300, v, bxS x⟩]⟩ k =
 if smKi x = true then k .normal ⟨258, gl0, [(0, true, a), (3, true, b), (4, true, .ptr 300 v 0), (6, true, d6), (7, true, d7), (59, true, .d (.bool false))], [⟨300, v, bxS x⟩]⟩ else R1 := by
 have hn := fname_r (sma x)
 unfold smKi
 simp only [bxS] at hr
 generalize nameF (sma x) = N at *
 by_cases h1 : smo x < 1
 · have h2 : ¬ 1 ≤ smo x := by omega
   simp [fsC, Tryz.f44]
   simp [h1, h2, hr]
 · have h2 : 1 ≤ smo x := by omega
   by_cases h9 : 9 < smo x
   · have h3 : ¬ smo x ≤ 9 := by omega
     simp [fsC, Tryz.f44]
     simp [h1, h2, h9, h3, hr]
   · have h3 : smo x ≤ 9 := by omega
     by_cases h4 : smo x = 4
     · simp only [h4] at hr ⊢
       cases N <;> (simp [fsC, Tryz.f44]; simp [h4, hn, hr])
     · by_cases h5 : smo x = 9
       · simp only [h5] at hr ⊢
         cases N <;> (simp [fsC, Tryz.f44]; simp [h5, hn, hr])
       · by_cases he : sma x = []
         · simp only [he] at hr ⊢
           simp [fsC, Tryz.f44]
           simp [h1, h2, h9, h3, h4, h5, he, hr]
         · simp [fsC, Tryz.f44]
           simp [h1, h2, h9, h3, h4, h5, he, hr]
theorem fsA2 {d7 : AV} (hl : (exa (smt x)).length < 100000000 ∧ (exf (smt x)).length < 100000000 ∧ (exs (smt x)).length < 100000000) (hk : KF [smt x]) : denK ctx 44 (fsC [1, 0, 1, 0, 0, 1, 0, 0, 1, 1, 1, 0]) ⟨258, gl0, [(0, true, a), (3, true, b), (4, true, .ptr 300 v 0), (6, true, .d (.bool (decide (smo x = 1)))), (7, true, d7), (59, true, .d (.bool false))], [⟨300, v, bxS x⟩]⟩ k =
 if smTo x = true then k .normal ⟨258, gl0, [(0, true, a), (3, true, b), (4, true, .ptr 300 v 0), (7, true, d7), (89, true, .d (.bool false))], [⟨300, v, bxS x⟩]⟩ else R1 := by
 have hn := fnone_r hl
 unfold KF at hk
 simp [exD_A, fitXs] at hk
 unfold smTo
 simp only [bxS] at hr
 generalize noneX (smt x) = N at *
 generalize fitX (smt x) = T at *
 by_cases h1 : smo x = 1
 · simp only [h1] at hr
   by_cases h3 : exo (smt x) = 3
   · simp only [h3] at hr hk
     cases T <;> (simp [fsC, Tryz.f44]; simp [h1, h3, hk, hr])
   · by_cases h4 : exo (smt x) = 4
     · simp only [h4] at hr hk
       cases T <;> (simp [fsC, Tryz.f44]; simp [h1, h4, hk, hr])
     · simp [fsC, Tryz.f44]
       simp [h1, h3, h4, hr]
 · cases N <;> (simp [fsC, Tryz.f44]; simp [h1, hn, hr])
end
section
variable {x : Sm} {v : Nat} {k : Kt} {R1 : Ans} {a b : AV}
theorem fsA3 (hr : k .ret ⟨258, gl0, [(2, true, .d (.bool false))], [⟨300, v, bxS x⟩]⟩ = R1) {V : Bool} (hV : V = decide (smo x = 1 ∨ smo x = 3 ∨ smo x = 5 ∨ smo x = 6)) (hl : (exa (smv x)).length < 100000000 ∧ (exf (smv x)).length < 100000000 ∧ (exs (smv x)).length < 100000000) (hk : KF [smv x]) (hc : KF (smc x)) : denK ctx 44 (fsC [1, 0, 1, 0, 0, 1, 0, 0, 1, 1, 1, 1, 0]) ⟨258, gl0, [(0, true, a), (3, true, b), (4, true, .ptr 300 v 0), (7, true, .d (.bool V)), (89, true, .d (.bool false))], [⟨300, v, bxS x⟩]⟩ k =
 if smVa x = true then k .normal ⟨258, gl0, [(0, true, a), (3, true, b), (4, true, .ptr 300 v 0), (118, true, .d (.bool false))], [⟨300, v, bxS x⟩]⟩ else R1 := by
 have hn := fnone_r hl
 unfold KF at hk hc
 simp [exD_A, fitXs] at hk
 have e : smVa x = ((if V = true then !noneX (smv x) && fitX (smv x) else noneX (smv x)) && fitXs (smc x)) := by
  unfold smVa
  rw [hV]
  by_cases h : smo x = 1 ∨ smo x = 3 ∨ smo x = 5 ∨ smo x = 6
  · rw [if_pos h, if_pos (by simpa using h)]
  · rw [if_neg h, if_neg (by simpa using h)]
 rw [e]
 simp only [bxS] at hr
 generalize noneX (smv x) = N at *
 generalize fitX (smv x) = T at *
 generalize fitXs (smc x) = W at *
 clear hV e
 cases V with
 | true =>
  cases N with
  | true => (simp [fsC, Tryz.f44]; simp [hn, hr])
  | false => cases T <;> cases W <;> (simp [fsC, Tryz.f44]; simp [hn, hk, hc, hr])
 | false => cases N <;> cases W <;> (simp [fsC, Tryz.f44]; simp [hn, hc, hr])
theorem fsA4 {X : Env} : denK ctx 44 (fsC [1, 0, 1, 0, 0, 1, 0, 0, 1, 1, 1, 1, 1, 0]) ⟨258, gl0, [(0, true, a), (3, true, b), (4, true, .ptr 300 v 0), (118, true, .d (.bool false))], [⟨300, v, bxS x⟩]⟩ k =
 k .normal ⟨258, gl0, [(0, true, a), (3, true, b), (4, true, .ptr 300 v 0), (8, true, .d (.int .i64 0)), (9, true, .d (.int .i64 0)), (10, true, .d (.int .i64 0)), (11, true, .d (.int .i64 0)), (12, true, .d (.int .i64 0))], [⟨300, v, bxS x⟩]⟩ := by
 simp [fsC, Tryz.f44]
def mx1 (n : Int) : Int := if 1 < n then n else 1
def c8F (x : Sm) : Int := if smo x = 2 then mx1 (smc x).length else if smo x = 4 then 3 else if smo x = 9 then (smf x).length else 0
def c9F (x : Sm) : Int := if smo x = 3 then (smlb x).length else 0
def c10F (x : Sm) : Int := if smo x = 9 then (smf x).length else 0
def c11F (x : Sm) : Int := if smo x = 2 then mx1 (smc x).length else if smo x = 3 then (smlb x).length else if smo x = 4 ∨ smo x = 5 ∨ smo x = 6 then 1 else 0
def c12F (x : Sm) : Int := if smo x = 2 ∨ smo x = 3 then 1 else 0
def cX (x : Sm) : Env := if smo x = 2 ∨ smo x = 3 ∨ smo x = 4 ∨ smo x = 5 ∨ smo x = 6 ∨ smo x = 9 then [] else [(144, true, .d (.bool false))]
theorem fsA5_2 (h2 : smo x = 2)  : denK ctx 44 (fsC [1, 0, 1, 0, 0, 1, 0, 0, 1, 1, 1, 1, 1, 1, 0]) ⟨258, gl0, [(0, true, a), (3, true, b), (4, true, .ptr 300 v 0), (8, true, .d (.int .i64 0)), (9, true, .d (.int .i64 0)), (10, true, .d (.int .i64 0)), (11, true, .d (.int .i64 0)), (12, true, .d (.int .i64 0))], [⟨300, v, bxS x⟩]⟩ k =
 k .normal ⟨258, gl0, [(0, true, a), (3, true, b), (4, true, .ptr 300 v 0), (8, true, .d (.int .i64 (c8F x))), (9, true, .d (.int .i64 (c9F x))), (10, true, .d (.int .i64 (c10F x))), (11, true, .d (.int .i64 (c11F x))), (12, true, .d (.int .i64 (c12F x)))] ++ cX x, [⟨300, v, bxS x⟩]⟩ := by
 unfold c8F c9F c10F c11F c12F cX
 simp [fsC, Tryz.f44]
 simp [h2, drwK_end, mx1]
theorem fsA5_3 (h3 : smo x = 3)  : denK ctx 44 (fsC [1, 0, 1, 0, 0, 1, 0, 0, 1, 1, 1, 1, 1, 1, 0]) ⟨258, gl0, [(0, true, a), (3, true, b), (4, true, .ptr 300 v 0), (8, true, .d (.int .i64 0)), (9, true, .d (.int .i64 0)), (10, true, .d (.int .i64 0)), (11, true, .d (.int .i64 0)), (12, true, .d (.int .i64 0))], [⟨300, v, bxS x⟩]⟩ k =
 k .normal ⟨258, gl0, [(0, true, a), (3, true, b), (4, true, .ptr 300 v 0), (8, true, .d (.int .i64 (c8F x))), (9, true, .d (.int .i64 (c9F x))), (10, true, .d (.int .i64 (c10F x))), (11, true, .d (.int .i64 (c11F x))), (12, true, .d (.int .i64 (c12F x)))] ++ cX x, [⟨300, v, bxS x⟩]⟩ := by
 unfold c8F c9F c10F c11F c12F cX
 simp [fsC, Tryz.f44]
 simp [h3, drwK_end, mx1]
theorem fsA5_4 (h4 : smo x = 4)  : denK ctx 44 (fsC [1, 0, 1, 0, 0, 1, 0, 0, 1, 1, 1, 1, 1, 1, 0]) ⟨258, gl0, [(0, true, a), (3, true, b), (4, true, .ptr 300 v 0), (8, true, .d (.int .i64 0)), (9, true, .d (.int .i64 0)), (10, true, .d (.int .i64 0)), (11, true, .d (.int .i64 0)), (12, true, .d (.int .i64 0))], [⟨300, v, bxS x⟩]⟩ k =
 k .normal ⟨258, gl0, [(0, true, a), (3, true, b), (4, true, .ptr 300 v 0), (8, true, .d (.int .i64 (c8F x))), (9, true, .d (.int .i64 (c9F x))), (10, true, .d (.int .i64 (c10F x))), (11, true, .d (.int .i64 (c11F x))), (12, true, .d (.int .i64 (c12F x)))] ++ cX x, [⟨300, v, bxS x⟩]⟩ := by
 unfold c8F c9F c10F c11F c12F cX
 simp [fsC, Tryz.f44]
 simp [h4, drwK_end, mx1]
theorem fsA5_5 (h5 : smo x = 5)  : denK ctx 44 (fsC [1, 0, 1, 0, 0, 1, 0, 0, 1, 1, 1, 1, 1, 1, 0]) ⟨258, gl0, [(0, true, a), (3, true, b), (4, true, .ptr 300 v 0), (8, true, .d (.int .i64 0)), (9, true, .d (.int .i64 0)), (10, true, .d (.int .i64 0)), (11, true, .d (.int .i64 0)), (12, true, .d (.int .i64 0))], [⟨300, v, bxS x⟩]⟩ k =
 k .normal ⟨258, gl0, [(0, true, a), (3, true, b), (4, true, .ptr 300 v 0), (8, true, .d (.int .i64 (c8F x))), (9, true, .d (.int .i64 (c9F x))), (10, true, .d (.int .i64 (c10F x))), (11, true, .d (.int .i64 (c11F x))), (12, true, .d (.int .i64 (c12F x)))] ++ cX x, [⟨300, v, bxS x⟩]⟩ := by
 unfold c8F c9F c10F c11F c12F cX
 simp [fsC, Tryz.f44]
 simp [h5, drwK_end, mx1]
theorem fsA5_6 (h6 : smo x = 6)  : denK ctx 44 (fsC [1, 0, 1, 0, 0, 1, 0, 0, 1, 1, 1, 1, 1, 1, 0]) ⟨258, gl0, [(0, true, a), (3, true, b), (4, true, .ptr 300 v 0), (8, true, .d (.int .i64 0)), (9, true, .d (.int .i64 0)), (10, true, .d (.int .i64 0)), (11, true, .d (.int .i64 0)), (12, true, .d (.int .i64 0))], [⟨300, v, bxS x⟩]⟩ k =
 k .normal ⟨258, gl0, [(0, true, a), (3, true, b), (4, true, .ptr 300 v 0), (8, true, .d (.int .i64 (c8F x))), (9, true, .d (.int .i64 (c9F x))), (10, true, .d (.int .i64 (c10F x))), (11, true, .d (.int .i64 (c11F x))), (12, true, .d (.int .i64 (c12F x)))] ++ cX x, [⟨300, v, bxS x⟩]⟩ := by
 unfold c8F c9F c10F c11F c12F cX
 simp [fsC, Tryz.f44]
 simp [h6, drwK_end, mx1]
theorem fsA5_9 (h9 : smo x = 9)  : denK ctx 44 (fsC [1, 0, 1, 0, 0, 1, 0, 0, 1, 1, 1, 1, 1, 1, 0]) ⟨258, gl0, [(0, true, a), (3, true, b), (4, true, .ptr 300 v 0), (8, true, .d (.int .i64 0)), (9, true, .d (.int .i64 0)), (10, true, .d (.int .i64 0)), (11, true, .d (.int .i64 0)), (12, true, .d (.int .i64 0))], [⟨300, v, bxS x⟩]⟩ k =
 k .normal ⟨258, gl0, [(0, true, a), (3, true, b), (4, true, .ptr 300 v 0), (8, true, .d (.int .i64 (c8F x))), (9, true, .d (.int .i64 (c9F x))), (10, true, .d (.int .i64 (c10F x))), (11, true, .d (.int .i64 (c11F x))), (12, true, .d (.int .i64 (c12F x)))] ++ cX x, [⟨300, v, bxS x⟩]⟩ := by
 unfold c8F c9F c10F c11F c12F cX
 simp [fsC, Tryz.f44]
 simp [h9, drwK_end, mx1]
theorem fsA5_0 (h2 : ¬ smo x = 2) (h3 : ¬ smo x = 3) (h4 : ¬ smo x = 4) (h5 : ¬ smo x = 5) (h6 : ¬ smo x = 6) (h9 : ¬ smo x = 9)  : denK ctx 44 (fsC [1, 0, 1, 0, 0, 1, 0, 0, 1, 1, 1, 1, 1, 1, 0]) ⟨258, gl0, [(0, true, a), (3, true, b), (4, true, .ptr 300 v 0), (8, true, .d (.int .i64 0)), (9, true, .d (.int .i64 0)), (10, true, .d (.int .i64 0)), (11, true, .d (.int .i64 0)), (12, true, .d (.int .i64 0))], [⟨300, v, bxS x⟩]⟩ k =
 k .normal ⟨258, gl0, [(0, true, a), (3, true, b), (4, true, .ptr 300 v 0), (8, true, .d (.int .i64 (c8F x))), (9, true, .d (.int .i64 (c9F x))), (10, true, .d (.int .i64 (c10F x))), (11, true, .d (.int .i64 (c11F x))), (12, true, .d (.int .i64 (c12F x)))] ++ cX x, [⟨300, v, bxS x⟩]⟩ := by
 unfold c8F c9F c10F c11F c12F cX
 simp [fsC, Tryz.f44]
 simp [h2, h3, h4, h5, h6, h9, drwK_end, mx1]
theorem fsA5 : denK ctx 44 (fsC [1, 0, 1, 0, 0, 1, 0, 0, 1, 1, 1, 1, 1, 1, 0]) ⟨258, gl0, [(0, true, a), (3, true, b), (4, true, .ptr 300 v 0), (8, true, .d (.int .i64 0)), (9, true, .d (.int .i64 0)), (10, true, .d (.int .i64 0)), (11, true, .d (.int .i64 0)), (12, true, .d (.int .i64 0))], [⟨300, v, bxS x⟩]⟩ k =
 k .normal ⟨258, gl0, [(0, true, a), (3, true, b), (4, true, .ptr 300 v 0), (8, true, .d (.int .i64 (c8F x))), (9, true, .d (.int .i64 (c9F x))), (10, true, .d (.int .i64 (c10F x))), (11, true, .d (.int .i64 (c11F x))), (12, true, .d (.int .i64 (c12F x)))] ++ cX x, [⟨300, v, bxS x⟩]⟩ := by
 by_cases h2 : smo x = 2
 · exact fsA5_2 h2
 · by_cases h3 : smo x = 3
   · exact fsA5_3 h3
   · by_cases h4 : smo x = 4
     · exact fsA5_4 h4
     · by_cases h5 : smo x = 5
       · exact fsA5_5 h5
       · by_cases h6 : smo x = 6
         · exact fsA5_6 h6
         · by_cases h9 : smo x = 9
           · exact fsA5_9 h9
           · exact fsA5_0 h2 h3 h4 h5 h6 h9
theorem fsA6a (hr : k .ret ⟨258, gl0, [(2, true, .d (.bool false))], [⟨300, v, bxS x⟩]⟩ = R1) {c8 c9 c10 c11 c12 : Int} (hw : IntKind.i64.wrap (c11 + c12) = c11 + c12) : denK ctx 44 (fsC [1, 0, 1, 0, 0, 1, 0, 0, 1, 1, 1, 1, 1, 1, 1, 0]) ⟨258, gl0, [(0, true, a), (3, true, b), (4, true, .ptr 300 v 0), (8, true, .d (.int .i64 c8)), (9, true, .d (.int .i64 c9)), (10, true, .d (.int .i64 c10)), (11, true, .d (.int .i64 c11)), (12, true, .d (.int .i64 c12))], [⟨300, v, bxS x⟩]⟩ k =
 if (((smc x).length : Int) = c8 ∧ ((smlb x).length : Int) = c9 ∧ ((smf x).length : Int) = c10 ∧ ¬ ((smb x).length : Int) < c11 ∧ ¬ c11 + c12 < ((smb x).length : Int)) then k .normal ⟨258, gl0, [(0, true, a), (3, true, b), (4, true, .ptr 300 v 0), (186, true, .d (.bool false))], [⟨300, v, bxS x⟩]⟩ else R1 := by
 simp only [bxS] at hr
 by_cases h8 : ((smc x).length : Int) = c8
 · by_cases h9 : ((smlb x).length : Int) = c9
   · by_cases h10 : ((smf x).length : Int) = c10
     · by_cases h11 : ((smb x).length : Int) < c11
       · (simp [fsC, Tryz.f44]; simp [h8, h9, h10, h11, hr]; intros; exfalso; omega)
       · by_cases h12 : c11 + c12 < ((smb x).length : Int)
         · (simp [fsC, Tryz.f44]; simp [h8, h9, h10, h11, hw, h12, hr]; intros; exfalso; omega)
         · (simp [fsC, Tryz.f44]; simp [h8, h9, h10, h11, hw, h12, hr])
     · (simp [fsC, Tryz.f44]; simp [h8, h9, h10, hr])
   · (simp [fsC, Tryz.f44]; simp [h8, h9, hr])
 · (simp [fsC, Tryz.f44]; simp [h8, hr])
theorem fsA6b (hr : k .ret ⟨258, gl0, [(2, true, .d (.bool false))], [⟨300, v, bxS x⟩]⟩ = R1) {c8 c9 c10 c11 c12 : Int} (hw : IntKind.i64.wrap (c11 + c12) = c11 + c12) : denK ctx 44 (fsC [1, 0, 1, 0, 0, 1, 0, 0, 1, 1, 1, 1, 1, 1, 1, 0]) ⟨258, gl0, [(0, true, a), (3, true, b), (4, true, .ptr 300 v 0), (8, true, .d (.int .i64 c8)), (9, true, .d (.int .i64 c9)), (10, true, .d (.int .i64 c10)), (11, true, .d (.int .i64 c11)), (12, true, .d (.int .i64 c12)), (144, true, .d (.bool false))], [⟨300, v, bxS x⟩]⟩ k =
 if (((smc x).length : Int) = c8 ∧ ((smlb x).length : Int) = c9 ∧ ((smf x).length : Int) = c10 ∧ ¬ ((smb x).length : Int) < c11 ∧ ¬ c11 + c12 < ((smb x).length : Int)) then k .normal ⟨258, gl0, [(0, true, a), (3, true, b), (4, true, .ptr 300 v 0), (186, true, .d (.bool false))], [⟨300, v, bxS x⟩]⟩ else R1 := by
 simp only [bxS] at hr
 by_cases h8 : ((smc x).length : Int) = c8
 · by_cases h9 : ((smlb x).length : Int) = c9
   · by_cases h10 : ((smf x).length : Int) = c10
     · by_cases h11 : ((smb x).length : Int) < c11
       · (simp [fsC, Tryz.f44]; simp [h8, h9, h10, h11, hr]; intros; exfalso; omega)
       · by_cases h12 : c11 + c12 < ((smb x).length : Int)
         · (simp [fsC, Tryz.f44]; simp [h8, h9, h10, h11, hw, h12, hr]; intros; exfalso; omega)
         · (simp [fsC, Tryz.f44]; simp [h8, h9, h10, h11, hw, h12, hr])
     · (simp [fsC, Tryz.f44]; simp [h8, h9, h10, hr])
   · (simp [fsC, Tryz.f44]; simp [h8, h9, hr])
 · (simp [fsC, Tryz.f44]; simp [h8, hr])
end
def KS (b : List Sm) : Prop := callT ctx 44 [.d (.list (b.map smD))] [] = some (.ret (.d (.bool (fitMs b))), [])
section
variable {x : Sm} {v : Nat} {k : Kt} {R1 R2 : Ans} {a b : AV}
theorem fsF_loop (hl : (smf x).length < 100000000) (h1 : k .ret ⟨258, gl0, [(2, true, .d (.bool false))], [⟨300, v, bxS x⟩]⟩ = R1)
 (h2 : k (.exit 3) ⟨258, gl0, [(0, true, a), (3, true, b), (4, true, .ptr 300 v 0), (13, true, .d (.int .i64 (smf x).length)), (191, true, .d (.bool false))], [⟨300, v, bxS x⟩]⟩ = R2) : ∀ (rest pre : List Tx), smf x = pre ++ rest →
 denK ctx 44 (.loop (fsC [1, 0, 1, 0, 0, 1, 0, 0, 1, 1, 1, 1, 1, 1, 1, 1, 0, 1, 0, 0])) ⟨258, gl0, [(0, true, a), (3, true, b), (4, true, .ptr 300 v 0), (13, true, .d (.int .i64 pre.length))], [⟨300, v, bxS x⟩]⟩ k = if rest.all nameF = true then R2 else R1
 | [], pre, hd => by
  have hl0 : pre.length = (smf x).length := by rw [hd]; simp
  simp only [bxS] at h2
  rw [hl0, denK_loop]
  simp [fsC, Tryz.f44, h2]
 | c :: rest, pre, hd => by
  have hb1 : pre.length < (smf x).length := by rw [hd]; simp
  have hb2 : (smf x)[pre.length] = c := by simp [hd]
  have ih := fsF_loop hl h1 h2 rest (pre ++ [c]) (by simp [hd])
  have hn := fname_r c
  have w1 : IntKind.i64.wrap ((pre.length : Int) + 1) = (pre.length : Int) + 1 := wrap_id (by unfold I64; omega)
  simp only [bxS] at h1
  rw [List.all_cons]
  generalize nameF c = N at *
  rw [denK_loop]
  cases N with
  | true =>
   simp [fsC, Tryz.f44] at ih ⊢
   simp [hb1, hb2, hn, w1, ih]
  | false =>
   simp [fsC, Tryz.f44]
   simp [hb1, hb2, hn, h1]
theorem fsN_loop {l : List Int} {i : Nat} (hi : i < (smlb x).length) (hx : (smlb x)[i] = l) (hl : l.length < 100000000) (h1 : k .ret ⟨258, gl0, [(2, true, .d (.bool false))], [⟨300, v, bxS x⟩]⟩ = R1)
 (h2 : k (.exit 7) ⟨258, gl0, [(0, true, a), (3, true, b), (4, true, .ptr 300 v 0), (14, true, .d (.int .i64 i)), (15, true, .d (.int .i64 l.length)), (232, true, .d (.bool false))], [⟨300, v, bxS x⟩]⟩ = R2) : ∀ (rest pre : List Int), l = pre ++ rest →
 denK ctx 44 (.loop (fsC [1, 0, 1, 0, 0, 1, 0, 0, 1, 1, 1, 1, 1, 1, 1, 1, 1, 0, 1, 0, 0, 1, 0, 0, 1, 1, 0, 0])) ⟨258, gl0, [(0, true, a), (3, true, b), (4, true, .ptr 300 v 0), (14, true, .d (.int .i64 i)), (15, true, .d (.int .i64 pre.length))], [⟨300, v, bxS x⟩]⟩ k = if rest.all (fun n => decide (n ≠ -9223372036854775808)) = true then R2 else R1
 | [], pre, hd => by
  have hl0 : pre.length = l.length := by rw [hd]; simp
  simp only [bxS] at h2
  rw [hl0, denK_loop]
  simp [fsC, Tryz.f44]
  simp [hi, hx, lbD, h2]
 | c :: rest, pre, hd => by
  have hb1 : pre.length < l.length := by rw [hd]; simp
  have hb2 : l[pre.length] = c := by simp [hd]
  have ih := fsN_loop hi hx hl h1 h2 rest (pre ++ [c]) (by simp [hd])
  have w1 : IntKind.i64.wrap ((pre.length : Int) + 1) = (pre.length : Int) + 1 := wrap_id (by unfold I64; omega)
  simp only [bxS] at h1
  rw [List.all_cons]
  rw [denK_loop]
  by_cases hc : c = -9223372036854775808
  · simp [fsC, Tryz.f44]
    simp [hi, hx, lbD, hb1, hb2, hc, h1]
  · simp [fsC, Tryz.f44] at ih ⊢
    simp [hi, hx, lbD, hb1, hb2, hc, w1, ih]
theorem fsB_loop (hl : (smb x).length < 100000000) (hK : ∀ c ∈ smb x, KS c) (h1 : k .ret ⟨258, gl0, [(2, true, .d (.bool false))], [⟨300, v, bxS x⟩]⟩ = R1)
 (h2 : k (.exit 9) ⟨258, gl0, [(0, true, a), (3, true, b), (4, true, .ptr 300 v 0), (16, true, .d (.int .i64 (smb x).length)), (248, true, .d (.bool false))], [⟨300, v, bxS x⟩]⟩ = R2) : ∀ (rest pre : List (List Sm)), smb x = pre ++ rest →
 denK ctx 44 (.loop (fsC [1, 0, 1, 0, 0, 1, 0, 0, 1, 1, 1, 1, 1, 1, 1, 1, 1, 1, 1, 0, 0])) ⟨258, gl0, [(0, true, a), (3, true, b), (4, true, .ptr 300 v 0), (16, true, .d (.int .i64 pre.length))], [⟨300, v, bxS x⟩]⟩ k = if fitBs rest = true then R2 else R1
 | [], pre, hd => by
  have hl0 : pre.length = (smb x).length := by rw [hd]; simp
  simp only [bxS] at h2
  rw [hl0, denK_loop]
  simp [fsC, Tryz.f44, h2, fitBs]
 | c :: rest, pre, hd => by
  have hb1 : pre.length < (smb x).length := by rw [hd]; simp
  have hb2 : (smb x)[pre.length] = c := by simp [hd]
  have ih := fsB_loop hl hK h1 h2 rest (pre ++ [c]) (by simp [hd])
  have hn := hK c (by rw [hd]; simp)
  have w1 : IntKind.i64.wrap ((pre.length : Int) + 1) = (pre.length : Int) + 1 := wrap_id (by unfold I64; omega)
  simp only [bxS] at h1
  unfold KS at hn
  have key : fitBs (c :: rest) = (fitMs c && fitBs rest) := by rw [fitBs]
  rw [key]
  generalize fitMs c = N at *
  rw [denK_loop]
  cases N with
  | true =>
   simp [fsC, Tryz.f44] at ih ⊢
   simp [hb1, hb2, hn, bkD, w1, ih]
  | false =>
   simp [fsC, Tryz.f44]
   simp [hb1, hb2, hn, bkD, h1]
end
section
variable {x : Sm} {v : Nat} {k : Kt} {R1 R2 : Ans} {a b : AV}
theorem fsL_loop (hl : (smlb x).length < 100000000) (hll : ∀ l ∈ smlb x, l.length < 100000000) (h1 : k .ret ⟨258, gl0, [(2, true, .d (.bool false))], [⟨300, v, bxS x⟩]⟩ = R1)
 (h2 : k (.exit 5) ⟨258, gl0, [(0, true, a), (3, true, b), (4, true, .ptr 300 v 0), (14, true, .d (.int .i64 (smlb x).length)), (205, true, .d (.bool false))], [⟨300, v, bxS x⟩]⟩ = R2) : ∀ (rest pre : List (List Int)), smlb x = pre ++ rest →
 denK ctx 44 (.loop (fsC [1, 0, 1, 0, 0, 1, 0, 0, 1, 1, 1, 1, 1, 1, 1, 1, 1, 0, 1, 0, 0])) ⟨258, gl0, [(0, true, a), (3, true, b), (4, true, .ptr 300 v 0), (14, true, .d (.int .i64 pre.length))], [⟨300, v, bxS x⟩]⟩ k = if rest.all labB = true then R2 else R1
 | [], pre, hd => by
  have hl0 : pre.length = (smlb x).length := by rw [hd]; simp
  simp only [bxS] at h2
  rw [hl0, denK_loop]
  simp [fsC, Tryz.f44, h2]
 | c :: rest, pre, hd => by
  have hb1 : pre.length < (smlb x).length := by rw [hd]; simp
  have hb2 : (smlb x)[pre.length] = c := by simp [hd]
  have hcl := hll c (by rw [hd]; simp)
  have ih := fsL_loop hl hll h1 h2 rest (pre ++ [c]) (by simp [hd])
  have w1 : IntKind.i64.wrap ((pre.length : Int) + 1) = (pre.length : Int) + 1 := wrap_id (by unfold I64; omega)
  have hin := fun k R1 R2 h1 h2 => fsN_loop (a := a) (b := b) (v := v) (k := k) (R1 := R1) (R2 := R2) hb1 hb2 hcl h1 h2 c [] rfl
  simp only [bxS] at h1
  rw [List.all_cons]
  have key : labB c = (!decide (c.length = 0) && (decide (c.length % 2 = 0) && c.all fun n => decide (n ≠ -9223372036854775808))) := rfl
  rw [key]
  generalize (c.all fun n => decide (n ≠ -9223372036854775808)) = B at *
  rw [denK_loop]
  have ht : ((c.length : Int)).tmod 2 = ((c.length % 2 : Nat) : Int) := (Int.ofNat_tmod c.length 2).symm
  by_cases h0 : c.length = 0
  · have hc0 : c = [] := List.eq_nil_of_length_eq_zero h0
    simp [fsC, Tryz.f44]
    simp [hb1, hb2, lbD, h0, hc0, h1]
  · have hc0 : ¬ c = [] := fun h => h0 (by rw [h]; rfl)
    by_cases hp : c.length % 2 = 1
    · have hp0 : ¬ c.length % 2 = 0 := by omega
      rw [hp] at ht
      simp [fsC, Tryz.f44]
      simp [hb1, hb2, lbD, h0, hc0, hp, hp0, ht, h1]
    · have hp0 : c.length % 2 = 0 := by omega
      rw [hp0] at ht
      simp [fsC, Tryz.f44] at ih hin ⊢
      simp [hb1, hb2, lbD, h0, hc0, hp, hp0, ht]
      rw [hin]
      cases B <;> simp [h1, w1, ih]
end
section
variable {x : Sm} {v : Nat} {k : Kt} {R1 R2 : Ans} {a b : AV}
theorem fsP7 (hl : (smf x).length < 100000000) (h1 : k .ret ⟨258, gl0, [(2, true, .d (.bool false))], [⟨300, v, bxS x⟩]⟩ = R1) :
 denK ctx 44 (fsC [1, 0, 1, 0, 0, 1, 0, 0, 1, 1, 1, 1, 1, 1, 1, 1, 0]) ⟨258, gl0, [(0, true, a), (3, true, b), (4, true, .ptr 300 v 0), (186, true, .d (.bool false))], [⟨300, v, bxS x⟩]⟩ k =
 if (smf x).all nameF = true then k .normal ⟨258, gl0, [(0, true, a), (3, true, b), (4, true, .ptr 300 v 0), (13, true, .d (.int .i64 (smf x).length)), (191, true, .d (.bool false))], [⟨300, v, bxS x⟩]⟩ else R1 := by
 have hin := fun k R1 R2 h1 h2 => fsF_loop (a := a) (b := b) (v := v) (k := k) (R1 := R1) (R2 := R2) hl h1 h2 (smf x) [] rfl
 simp only [bxS] at h1
 generalize (smf x).all nameF = B at *
 simp [fsC, Tryz.f44] at hin ⊢
 rw [hin]
 cases B <;> simp [h1]
theorem fsP8 (hl : (smlb x).length < 100000000) (hll : ∀ l ∈ smlb x, l.length < 100000000) (h1 : k .ret ⟨258, gl0, [(2, true, .d (.bool false))], [⟨300, v, bxS x⟩]⟩ = R1) {d1 d2 : AV} :
 denK ctx 44 (fsC [1, 0, 1, 0, 0, 1, 0, 0, 1, 1, 1, 1, 1, 1, 1, 1, 1, 0]) ⟨258, gl0, [(0, true, a), (3, true, b), (4, true, .ptr 300 v 0), (13, true, d1), (191, true, d2)], [⟨300, v, bxS x⟩]⟩ k =
 if (smlb x).all labB = true then k .normal ⟨258, gl0, [(0, true, a), (3, true, b), (4, true, .ptr 300 v 0), (14, true, .d (.int .i64 (smlb x).length)), (205, true, .d (.bool false))], [⟨300, v, bxS x⟩]⟩ else R1 := by
 have hin := fun k R1 R2 h1 h2 => fsL_loop (a := a) (b := b) (v := v) (k := k) (R1 := R1) (R2 := R2) hl hll h1 h2 (smlb x) [] rfl
 simp only [bxS] at h1
 generalize (smlb x).all labB = B at *
 simp [fsC, Tryz.f44] at hin ⊢
 rw [hin]
 cases B <;> simp [h1]
theorem fsP9 (hl : (smb x).length < 100000000) (hK : ∀ c ∈ smb x, KS c) (h1 : k .ret ⟨258, gl0, [(2, true, .d (.bool false))], [⟨300, v, bxS x⟩]⟩ = R1) {d1 d2 : AV} :
 denK ctx 44 (fsC [1, 0, 1, 0, 0, 1, 0, 0, 1, 1, 1, 1, 1, 1, 1, 1, 1, 1]) ⟨258, gl0, [(0, true, a), (3, true, b), (4, true, .ptr 300 v 0), (14, true, d1), (205, true, d2)], [⟨300, v, bxS x⟩]⟩ k =
 if fitBs (smb x) = true then k .normal ⟨258, gl0, [(0, true, a), (3, true, b), (4, true, .ptr 300 v 0), (16, true, .d (.int .i64 (smb x).length)), (248, true, .d (.bool false))], [⟨300, v, bxS x⟩]⟩ else R1 := by
 have hin := fun k R1 R2 h1 h2 => fsB_loop (a := a) (b := b) (v := v) (k := k) (R1 := R1) (R2 := R2) hl hK h1 h2 (smb x) [] rfl
 simp only [bxS] at h1
 generalize fitBs (smb x) = B at *
 simp [fsC, Tryz.f44] at hin ⊢
 rw [hin]
 cases B <;> simp [h1]
theorem fsP0 : denK ctx 44 (fsC [1, 0, 1, 0, 0, 1, 0, 0, 1, 0]) ⟨258, gl0, [(0, true, a), (3, true, b), (4, true, .ptr 300 v 0)], [⟨300, v, bxS x⟩]⟩ k =
 k .normal ⟨258, gl0, [(0, true, a), (3, true, b), (4, true, .ptr 300 v 0), (5, true, .d (.bool (decide (smo x = 4 ∨ smo x = 9)))), (6, true, .d (.bool (decide (smo x = 1)))), (7, true, .d (.bool (decide (smo x = 1 ∨ smo x = 3 ∨ smo x = 5 ∨ smo x = 6))))], [⟨300, v, bxS x⟩]⟩ := by
 have hs := fshape_r (smo x)
 simp [fsC, Tryz.f44]
 simp [hs]
end
def smCo (x : Sm) : Bool := decide (((smc x).length : Int) = c8F x ∧ ((smlb x).length : Int) = c9F x ∧ ((smf x).length : Int) = c10F x ∧ ¬ ((smb x).length : Int) < c11F x ∧ ¬ c11F x + c12F x < ((smb x).length : Int))
theorem smCo_shape (x : Sm) : smCo x = shapeB (smo x) (smc x).length (smlb x).length (smf x).length (smb x).length := by
 unfold smCo shapeB c8F c9F c10F c11F c12F mx1
 generalize smo x = o
 generalize (smc x).length = n1
 generalize (smlb x).length = n2
 generalize (smf x).length = n3
 generalize (smb x).length = n4
 rw [Bool.eq_iff_iff]
 by_cases h2 : o = 2
 · subst h2
   by_cases h : (1 : Int) < n1
   · simp [h]; omega
   · simp [h]; omega
 · by_cases h3 : o = 3
   · subst h3; simp; omega
   · by_cases h4 : o = 4
     · subst h4; simp; omega
     · by_cases h5 : o = 5
       · subst h5; simp; omega
       · by_cases h6 : o = 6
         · subst h6; simp; omega
         · by_cases h9 : o = 9
           · subst h9; simp; omega
           · simp [h2, h3, h4, h5, h6, h9]
theorem fitM_A (x : Sm) : fitM x = (smKi x && (smTo x && (smVa x && (smCo x && ((smf x).all nameF && ((smlb x).all labB && fitBs (smb x))))))) := by
 rw [smCo_shape]
 obtain ⟨op, name, to, val, conds, labels, fields, blocks, line⟩ := x
 unfold fitM smKi smTo smVa
 simp only [Bool.and_assoc]
 rfl
end Go.Am
end
